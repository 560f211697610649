/- The walk of PromptTells: all matches, and the late ones, are as the page says. Conditions: those of each theorem. -/
import Derived.Test.YtdmdohjdmnmabaaGreatQp50
import Derived.Test.YtdmdohjdmnmabaaGreatQp54
import Derived.Test.YtdmdohjdmnmabaaGreatQp30
namespace Go.Proofs.YtdmdohjdmnmabaaGreat
open Go.RowKit
set_option linter.unusedVariables false
set_option linter.unusedSimpArgs false

theorem Blk.eight8 {w : World} {g : Nat} {t : TypeId} {a0 a1 a2 a3 a4 a5 a6 a7 : Value} (h : Blk w g t #[a0, a1, a2, a3, a4, a5, a6, a7]) :
    w.cell? ⟨g, 0, none⟩ = some a0 ∧ w.cell? ⟨g, 1, none⟩ = some a1 ∧ w.cell? ⟨g, 2, none⟩ = some a2 ∧ w.cell? ⟨g, 3, none⟩ = some a3 ∧ w.cell? ⟨g, 4, none⟩ = some a4 ∧ w.cell? ⟨g, 5, none⟩ = some a5 ∧ w.cell? ⟨g, 6, none⟩ = some a6 ∧ w.cell? ⟨g, 7, none⟩ = some a7 := by
  refine ⟨?_, ?_, ?_, ?_, ?_, ?_, ?_, ?_⟩ <;> (rw [h.cell]; rfl)
theorem max_ite (m r : Int) : max m r = if m < r then r else m := by split <;> omega
set_option maxRecDepth 100000 in
set_option maxHeartbeats 25600000 in
theorem PromptTells_walk (s : SetM) (SA : Option Addr) (Ps : List PrV) (sc : Nat) (RA : Option Addr) (rn rc : Nat) (A : Option Addr) (c : Nat) (l : List Ev) (w : World) (hs : PrsRd w NoBlk SA Ps) (hsn : Ps.length ≤ maxLen) (hsz : ∀ v ∈ Ps, PrSz v) (hr : Rd w NoBlk A (flat encEv l)) (hn : l.length ≤ maxLen) :
    Calls Tryz.prog 4 #[.agg (worldV s SA Ps.length sc RA rn rc), .slice A l.length c] w fun e w' => e = .returned (.bool true) ∧ Only NoBlk w w' := by
  have HFew0 := hide (fun (w' : World) (k : Only NoBlk w w') => Few_c NoBlk A c l 18 w' (hr.only k (fun _ h => h)) hn (by omega) (fun k h => h.elim))
  have HScr0 := hide (fun (w' : World) (k : Only NoBlk w w') => Scripts_c SA sc Ps w' (hs.only k (fun _ h => h)) hsn hsz)
  have hle := few_le l 18
  have htx := few_texts l 18
  have hid := fewL_idem l 18
  obtain ⟨FL, hFL⟩ : ∃ FL, FL = fewL l 18 := ⟨_, rfl⟩
  rw [← hFL] at HFew0 hle htx hid
  obtain ⟨X, hX⟩ : ∃ X, X = scrM (Ps.map prM) := ⟨_, rfl⟩
  have HXX := hide (show scrM X = X by rw [hX]; exact scrM_idem _)
  have HXl := hide (show X.length ≤ 4 by rw [hX]; exact scrM_len _)
  rw [← hX] at HScr0
  have HTx := hide htx
  have HId := hide hid
  obtain ⟨np, hnp⟩ : ∃ np, np = Ps.length := ⟨_, rfl⟩
  rw [← hnp] at HScr0 ⊢
  obtain ⟨n0, hn0⟩ : ∃ n0, n0 = l.length := ⟨_, rfl⟩
  rw [← hn0] at HFew0 ⊢
  have H18 : ((18 : Nat) : Int) = 18 := rfl
  obtain ⟨W, hW⟩ : ∃ W, W = w.alloc (.cells #[.int .i64 s.live, .int .i64 s.ring, .int .i64 s.win, .int .i64 s.out, .int .i64 s.quantum, .int .i64 s.visits, .slice SA np sc, .slice RA rn rc] 37) := ⟨_, rfl⟩
  have HO := hide (show Only NoBlk w W by rw [hW]; exact (Only.refl _ _).alloc _)
  have HBw := hide (show Blk W w.heap.size 37 #[.int .i64 s.live, .int .i64 s.ring, .int .i64 s.win, .int .i64 s.out, .int .i64 s.quantum, .int .i64 s.visits, .slice SA np sc, .slice RA rn rc] by rw [hW]; exact Blk.new _ _ _)
  have HW := hide hW
  clear hs hsn hsz hr hn hFL hX hnp hn0 htx hid hW H18
  go_enter Tryz.func4, Tryz.ntmps4
  go_upto_region 1 with fail
  change Code.wp _ _ _ _ (w.alloc (.cells #[.int .i64 s.live, .int .i64 s.ring, .int .i64 s.win, .int .i64 s.out, .int .i64 s.quantum, .int .i64 s.visits, .slice SA np sc, .slice RA rn rc] 37))
  rw [← HW.out]
  go_wp2_with fail
  refine (HFew0.out _ HO.out).mono ?_
  rintro e w1 ⟨A1, c1, rfl, rd1, hb1, hcap⟩
  have HR1 := hide rd1
  have HO1 := hide (HO.out.trans (Only.of_below hb1 NoBlk))
  have HBw1 := hide (HBw.out.below hb1)
  have HCap := hide hcap
  clear rd1 hb1 hcap
  obtain ⟨a0, a1, a2, a3, a4, a5, a6, a7⟩ := HBw1.out.eight8
  go_wp2_with fail
  refine (HScr0.out _ HO1.out).mono ?_
  rintro e w2 ⟨⟨B2, c2, Qs, rfl, hQM, hQr, hQz, hQc⟩, hb2⟩
  have HQM := hide hQM
  have HQr := hide (hQr.mono (M' := NoBlk) (fun _ h => h.elim))
  have HQz := hide hQz
  have HQl := hide (show Qs.length ≤ 4 by have h1 := HXl.out; rw [← hQM, List.length_map] at h1; exact h1)
  have HO2 := hide (HO1.out.trans (Only.of_below hb2 NoBlk))
  have HR2 := hide (HR1.out.below hb2)
  have HBw2 := hide (HBw1.out.below hb2)
  clear hQM hQr hQz hQc hb2 a0 a1 a2 a3 a4 a5 a6 a7
  have hQl4 := HQl.out
  have HScr := hide (fun (w' : World) (k : Only NoBlk w2 w') => show Calls Tryz.prog 14 #[.slice B2 Qs.length c2] w' fun e w'' => (∃ B c3 Rs, e = .returned (.slice B (List.length Rs) c3) ∧ Rs.map prM = Qs.map prM ∧ PrsRd w'' (· < w'.heap.size) B Rs ∧ (∀ v ∈ Rs, PrSz v) ∧ Rs.length ≤ c3) ∧ Below w'.heap.size w' w'' from by
    have h := Scripts_c B2 c2 Qs w' (HQr.out.only k (fun _ h => h)) (by simp only [maxLen]; omega) HQz.out
    rw [HQM.out, HXX.out] at h
    rw [HQM.out]
    exact h)
  have HFew := hide (fun (w' : World) (k : Only NoBlk w2 w') => show Calls Tryz.prog 13 #[.slice A1 FL.length c1, .int .i64 (18 : Nat)] w' (RetEvs NoBlk FL w') from by
    have h := Few_c NoBlk A1 c1 FL 18 w' (HR2.out.only k (fun _ h => h)) (by unfold maxLen; omega) (by omega) (fun k h => h.elim)
    rw [HId.out] at h
    exact h)
  obtain ⟨PL, hPL⟩ : ∃ PL, PL = promptM Qs FL := ⟨_, rfl⟩
  obtain ⟨LP, hLP⟩ : ∃ LP, LP = lateP s Qs FL := ⟨_, rfl⟩
  have HPLl := hide (show PL.length ≤ 1000000 by rw [hPL]; exact promptM_len Qs FL (by omega) (fun x hx => Nat.le_trans (HTx.out x hx) (by omega)))
  have HLPl := hide (show LP.length ≤ 1000000 by
    rw [hLP]
    unfold lateP
    split
    · have h1 := keep_le (promptB (waitS s)) (promptM Qs FL)
      have h2 := HPLl.out
      rw [hPL] at h2
      omega
    · simp)
  have HSm := hide (show ∀ x ∈ PL, LagSm x from fun x hx => (lag_sm (Ps := Qs) (l := FL) (by omega) (by rw [← hPL]; exact hx)).1)
  have HRef := hide (fun (w' : World) (k : Only NoBlk w2 w') => refOf41_c B2 c2 Qs A1 c1 FL w' (HQr.out.only k (fun _ h => h)) (by simp only [maxLen]; omega) HQz.out (HR2.out.only k (fun _ h => h)) (by omega) (fun x hx => Nat.le_trans (HTx.out x hx) (by omega)))
  have HRefL := hide (fun (w' : World) (k : Only NoBlk w2 w') => refLate41_c s B2 c2 Qs A1 c1 FL w' (HQr.out.only k (fun _ h => h)) (by simp only [maxLen]; omega) HQz.out (HR2.out.only k (fun _ h => h)) (by omega) (fun x hx => Nat.le_trans (HTx.out x hx) (by omega)))
  have HPOf := hide (fun (Rs : List PrV) (B : Option Addr) (c3 : Nat) (A4 : Option Addr) (c4 : Nat) (w' : World) (hM : Rs.map prM = Qs.map prM) (h1 : PrsRd w' NoBlk B Rs) (h2 : ∀ v ∈ Rs, PrSz v) (h3 : Rd w' NoBlk A4 (flat encEv FL)) (h4 : FL.length ≤ c4) => show Calls Tryz.prog 18 #[.slice B Rs.length c3, .slice A4 FL.length c4] w' fun e w'' => (∃ A5 c5, e = .returned (.slice A5 PL.length c5) ∧ Rd w'' NoBlk A5 (flat encLag PL)) ∧ Only NoBlk w' w'' from by
    have hl : Rs.length = Qs.length := by have := congrArg List.length hM; simpa using this
    have h := Prompt_c B c3 Rs A4 c4 FL w' h1 (by simp only [maxLen]; omega) h2 h3 (by omega) (fun x hx => Nat.le_trans (HTx.out x hx) (by omega)) h4
    rw [promptM_congr hM, ← hPL] at h
    exact h)
  have HPWo := hide (fun (Rs : List PrV) (B : Option Addr) (c3 : Nat) (A4 : Option Addr) (c4 : Nat) (w' : World) (hM : Rs.map prM = Qs.map prM) (h1 : PrsRd w' NoBlk B Rs) (h2 : ∀ v ∈ Rs, PrSz v) (h3 : Rd w' NoBlk A4 (flat encEv FL)) (h4 : FL.length ≤ c4) => show Calls Tryz.prog 19 #[.slice B Rs.length c3, .slice A4 FL.length c4] w' fun e w'' => e = .returned (.int .i64 (worstP PL)) ∧ Only NoBlk w' w'' from by
    have hl : Rs.length = Qs.length := by have := congrArg List.length hM; simpa using this
    have h := pWorst_c B c3 Rs A4 c4 FL w' h1 (by simp only [maxLen]; omega) h2 h3 (by omega) (fun x hx => Nat.le_trans (HTx.out x hx) (by omega)) h4
    rw [promptM_congr hM, ← hPL] at h
    exact h)
  have HPLa := hide (fun (Rs : List PrV) (B : Option Addr) (c3 : Nat) (A4 : Option Addr) (c4 : Nat) (w' : World) (hM : Rs.map prM = Qs.map prM) (h1 : PrsRd w' NoBlk B Rs) (h2 : ∀ v ∈ Rs, PrSz v) (h3 : Rd w' NoBlk A4 (flat encEv FL)) (h4 : FL.length ≤ c4) => show Calls Tryz.prog 20 #[.agg (setV s), .slice B Rs.length c3, .slice A4 FL.length c4] w' fun e w'' => (∃ A5 c5, e = .returned (.slice A5 LP.length c5) ∧ Rd w'' NoBlk A5 (flat encLag LP)) ∧ Only NoBlk w' w'' from by
    have hl : Rs.length = Qs.length := by have := congrArg List.length hM; simpa using this
    have h := pLate_c s B c3 Rs A4 c4 FL w' h1 (by simp only [maxLen]; omega) h2 h3 (by omega) (fun x hx => Nat.le_trans (HTx.out x hx) (by omega)) h4
    rw [lateP_congr hM, ← hLP] at h
    exact h)
  rw [← hPL] at HRef
  rw [← hLP] at HRefL
  have HLives := hide (fun w' => lives41_c w')
  obtain ⟨N, hN⟩ : ∃ N, N = PL.length := ⟨_, rfl⟩
  have HNN := hide hN
  rw [← hN] at HRef HPOf HPLl
  obtain ⟨fn, hfn⟩ : ∃ fn, fn = FL.length := ⟨_, rfl⟩
  rw [← hfn] at HFew HRef HRefL HPOf HPWo HPLa HCap hle
  rw [← hfn]
  obtain ⟨qn, hqn⟩ : ∃ qn, qn = Qs.length := ⟨_, rfl⟩
  rw [← hqn] at HScr HRef HRefL hQl4
  rw [← hqn]
  have HFn := hide hfn
  have hN6 := HPLl.out
  clear hPL hLP hN hfn hqn
  go_wp2_with fail
  refine (HRef.out _ (Only.refl _ _)).mono ?_
  rintro e w3 ⟨⟨v, rfl, hown⟩, hb3⟩
  obtain ⟨VA, vc, rfl, _⟩ := own_cap hown
  have HRL := hide (Rd.of_own (M := NoBlk) hown (fun _ h => h.elim))
  have HO3 := hide (show Only NoBlk w2 w3 from Only.of_below hb3 NoBlk)
  have HBw3 := hide (HBw2.out.below hb3)
  clear hown hb3
  have HCe := hide (fun (w' : World) (hb : Only NoBlk w3 w') (k : Nat) (x : LagM) (hx : PL[k]? = some x) => flat_cells encLag_len (HRL.out.only hb (fun _ h => h)) k x hx (by omega))
  go_wp2_with fail
  go_loopw [7, 8] (fun m i wr => ∃ k : Nat, k ≤ N ∧ i = .int .i64 k ∧ m = .int .i64 (worstP (PL.take k)) ∧ Hid (Only NoBlk w3 wr)) (fun _ i _ => N - (intOf i).toNat)
  case atStart => exact ⟨0, Nat.zero_le _, rfl, by simp [worstP], hide (Only.refl _ _)⟩
  case round =>
    obtain ⟨k, hk, rfl, rfl, HB⟩ := hrel
    by_cases hlt : k < N
    case pos =>
      obtain ⟨x, hx⟩ : ∃ x, PL[k]? = some x := ⟨PL[k]'(by rw [← HNN.out]; exact hlt), List.getElem?_eq_getElem _⟩
      obtain ⟨b2, o, rfl, _, hb2, hc⟩ := HCe.out wr HB.out k x hx
      have g0 : wr.cell? ⟨b2, o + k * 6, none⟩ = some (.int .i64 x.id) := hc 0 (by omega)
      have g1 : wr.cell? ⟨b2, o + k * 6 + 1, none⟩ = some (.int .i64 x.step) := hc 1 (by omega)
      have g2 : wr.cell? ⟨b2, o + k * 6 + 2, none⟩ = some (.int .i64 x.gone) := hc 2 (by omega)
      have g3 : wr.cell? ⟨b2, o + k * 6 + 3, none⟩ = some (.int .i64 x.read) := hc 3 (by omega)
      have g4 : wr.cell? ⟨b2, o + k * 6 + 4, none⟩ = some (.int .i64 x.from_) := hc 4 (by omega)
      have g5 : wr.cell? ⟨b2, o + k * 6 + 5, none⟩ = some (.int .i64 x.match_) := hc 5 (by omega)
      have hm := HSm.out x (List.mem_of_getElem? hx)
      have HRd := hide (fun w' => refRounds_c x.id x.step x.gone x.read x.from_ x.match_ w' hm.1 hm.2.1 hm.2.2)
      have HSu := hide (worst_succ PL k x hx)
      obtain ⟨r, hrr⟩ : ∃ r, r = roundsM x := ⟨_, rfl⟩
      have hr2 : roundsM ⟨x.id, x.step, x.gone, x.read, x.from_, x.match_⟩ = r := hrr.symm
      rw [hr2] at HRd
      rw [← hrr, max_ite] at HSu
      obtain ⟨m0, hm0⟩ : ∃ m0, m0 = worstP (PL.take k) := ⟨_, rfl⟩
      rw [← hm0] at HSu ⊢
      have d1 : decide ((k : Int) < (N : Int)) = true := by simp; exact hlt
      have d2 : decide (k < N) = true := by simp; exact hlt
      have j1 : (0 : Int) ≤ (k : Int) := by omega
      have j2 : (k : Int) < (N : Int) := by omega
      have w1' : IntKind.i64.wrap ((k : Int) + 1) = (k : Int) + 1 := IntWalk.i64_in _ (by omega)
      clear hc hx hm hrr hr2 hm0
      go_wp2_with fail
      refine (HRd.out _).mono ?_
      rintro e w4 ⟨rfl, hb4⟩
      have HB4 := hide (HB.out.trans (Only.of_below hb4 NoBlk))
      clear hb4 g0 g1 g2 g3 g4 g5
      by_cases hrm : m0 < r
      · have q1 : decide (m0 < r) = true := by simp [hrm]
        have HS2 := hide (HSu.out.trans (if_pos hrm))
        clear hrm
        go_wp2_with fail
        go_roundw
        case rel => exact ⟨k + 1, by omega, by go_num, by rw [HS2.out], HB4⟩
        case measure => simp [intOf]; omega
      · have q1 : decide (m0 < r) = false := by simpa using hrm
        have HS2 := hide (HSu.out.trans (if_neg hrm))
        clear hrm
        go_wp2_with fail
        go_roundw
        case rel => exact ⟨k + 1, by omega, by go_num, by rw [HS2.out], HB4⟩
        case measure => simp [intOf]; omega
    case neg =>
      obtain rfl : k = N := by omega
      have d1 : decide ((k : Int) < (k : Int)) = false := by simp
      have d2 : decide (k < k) = false := by simp
      have hwl : worstP (PL.take k) = worstP PL := by rw [HNN.out, List.take_length]
      rw [hwl]
      obtain ⟨WP, hWP⟩ : ∃ WP, WP = worstP PL := ⟨_, rfl⟩
      rw [← hWP] at HPWo ⊢
      have HO4 := hide (HO3.out.trans HB.out)
      have HBw4 := hide (HBw3.out.only HB.out (fun h => h))
      have HRL4 := hide (HRL.out.only HB.out (fun _ h => h))
      have e1 : (WP != WP) = false := by simp
      clear hwl hWP HB
      go_wp2_with fail
      refine (HScr.out _ HO4.out).mono ?_
      rintro e ws5 ⟨⟨B5, bc5, Rs5, rfl, hM5, hr5, hz5, _⟩, hb5⟩
      have HM5 := hide hM5
      have HZ5 := hide hz5
      have HOa5 := hide (HO4.out.trans (Only.of_below hb5 NoBlk))
      have HPs5 := hide (hr5.mono (M' := NoBlk) (fun _ h => h.elim))
      have HBwa5 := hide (HBw4.out.below hb5)
      have HRLa5 := hide (HRL4.out.below hb5)
      clear hM5 hr5 hz5 hb5
      go_wp2_with fail
      refine (HFew.out _ HOa5.out).mono ?_
      rintro e wf5 ⟨A5, ac5, he5, rf5, hbf5, hcf5⟩
      rw [← HFn.out] at he5 hcf5
      subst he5
      have HRf5 := hide rf5
      have HCf5 := hide hcf5
      have HOb5 := hide (HOa5.out.trans (Only.of_below hbf5 NoBlk))
      have HPb5 := hide (HPs5.out.below hbf5)
      have HBwb5 := hide (HBwa5.out.below hbf5)
      have HRLb5 := hide (HRLa5.out.below hbf5)
      clear rf5 hbf5 hcf5
      go_wp2_with fail
      refine (HPOf.out Rs5 B5 bc5 A5 ac5 _ HM5.out HPb5.out HZ5.out HRf5.out HCf5.out).mono ?_
      rintro e w6 ⟨⟨A6, c6, rfl, hr6⟩, ho6⟩
      have HR6 := hide hr6
      have HO6 := hide (HOb5.out.trans ho6)
      have HBw6 := hide (HBwb5.out.only ho6 (fun h => h))
      have HRL6 := hide (HRLb5.out.only ho6 (fun _ h => h))
      have HSame := hide (sameLag_c NoBlk NoBlk A6 VA c6 vc PL w6 hr6 HRL6.out (by rw [← HNN.out]; have := HPLl.out; omega))
      rw [← HNN.out] at HSame
      clear hr6 ho6
      go_wp2_with fail
      refine HSame.out.mono ?_
      rintro e w7 ⟨rfl, hb7⟩
      have HO7 := hide (HO6.out.trans (Only.of_below hb7 NoBlk))
      have HBw7 := hide (HBw6.out.below hb7)
      have HRL7 := hide (HRL6.out.below hb7)
      clear hb7
      go_wp2_with fail
      refine (HScr.out _ HO7.out).mono ?_
      rintro e ws8 ⟨⟨B8, bc8, Rs8, rfl, hM8, hr8, hz8, _⟩, hb8⟩
      have HM8 := hide hM8
      have HZ8 := hide hz8
      have HOa8 := hide (HO7.out.trans (Only.of_below hb8 NoBlk))
      have HPs8 := hide (hr8.mono (M' := NoBlk) (fun _ h => h.elim))
      have HBwa8 := hide (HBw7.out.below hb8)
      have HRLa8 := hide (HRL7.out.below hb8)
      clear hM8 hr8 hz8 hb8
      go_wp2_with fail
      refine (HFew.out _ HOa8.out).mono ?_
      rintro e wf8 ⟨A8, ac8, he8, rf8, hbf8, hcf8⟩
      rw [← HFn.out] at he8 hcf8
      subst he8
      have HRf8 := hide rf8
      have HCf8 := hide hcf8
      have HOb8 := hide (HOa8.out.trans (Only.of_below hbf8 NoBlk))
      have HPb8 := hide (HPs8.out.below hbf8)
      have HBwb8 := hide (HBwa8.out.below hbf8)
      have HRLb8 := hide (HRLa8.out.below hbf8)
      clear rf8 hbf8 hcf8
      go_wp2_with fail
      refine (HPWo.out Rs8 B8 bc8 A8 ac8 _ HM8.out HPb8.out HZ8.out HRf8.out HCf8.out).mono ?_
      rintro e w9 ⟨rfl, ho9⟩
      have HO9 := hide (HOb8.out.trans ho9)
      have HBw9 := hide (HBwb8.out.only ho9 (fun h => h))
      clear ho9
      go_upto_region 12 with fail
      obtain ⟨V0, hV0⟩ : ∃ V9, V9 = w9.drew := ⟨_, rfl⟩
      have HOv0 := hide (show Only NoBlk w2 V0 by rw [hV0]; exact HO9.out.drew)
      have HBv0 := hide (show Blk V0 w.heap.size 37 #[.int .i64 s.live, .int .i64 s.ring, .int .i64 s.win, .int .i64 s.out, .int .i64 s.quantum, .int .i64 s.visits, .slice SA np sc, .slice RA rn rc] by rw [hV0]; exact HBw9.out.drew)
      refine wp_region_held (S := fun w' => w'.cell? ⟨w.heap.size, 0, none⟩ = some (.int .i64 s.live) ∧ w'.cell? ⟨w.heap.size, 1, none⟩ = some (.int .i64 s.ring) ∧ w'.cell? ⟨w.heap.size, 2, none⟩ = some (.int .i64 s.win) ∧ w'.cell? ⟨w.heap.size, 3, none⟩ = some (.int .i64 s.out) ∧ w'.cell? ⟨w.heap.size, 4, none⟩ = some (.int .i64 s.quantum) ∧ w'.cell? ⟨w.heap.size, 5, none⟩ = some (.int .i64 s.visits) ∧ w'.cell? ⟨w.heap.size, 6, none⟩ = some (.slice SA np sc) ∧ w'.cell? ⟨w.heap.size, 7, none⟩ = some (.slice RA rn rc)) (by kernel_rfl) ?_
      change wpAnyH _ _ _ _ _ _ _ _ w9.drew
      have hHeld : (fun w' => w'.cell? ⟨w.heap.size, 0, none⟩ = some (.int .i64 s.live) ∧ w'.cell? ⟨w.heap.size, 1, none⟩ = some (.int .i64 s.ring) ∧ w'.cell? ⟨w.heap.size, 2, none⟩ = some (.int .i64 s.win) ∧ w'.cell? ⟨w.heap.size, 3, none⟩ = some (.int .i64 s.out) ∧ w'.cell? ⟨w.heap.size, 4, none⟩ = some (.int .i64 s.quantum) ∧ w'.cell? ⟨w.heap.size, 5, none⟩ = some (.int .i64 s.visits) ∧ w'.cell? ⟨w.heap.size, 6, none⟩ = some (.slice SA np sc) ∧ w'.cell? ⟨w.heap.size, 7, none⟩ = some (.slice RA rn rc)) w9.drew := by rw [← hV0]; exact (HBv0.out).eight8
      rw [← hV0] at hHeld ⊢
      simp only [List.size_toArray, List.length_cons, List.length_nil, Nat.zero_add, Nat.reduceAdd]
      clear hV0
      refine wpAnyH_take (i := 0) (v := ?_) rfl (by kernel_rfl) (by kernel_rfl) (by kernel_rfl) (fun _ _ _ h => h) (Or.inl ⟨by rfl, ?_⟩) (by assumption) ?_
      rotate_left
      · (intro w9 hS9; try simp only [List.getElem_toArray, List.getElem_cons_zero, List.getElem_cons_succ]
         go_simp <;> rfl)
      try simp only [Act.put, List.setIfInBounds_toArray, List.set_cons_zero, List.set_cons_succ, List.getElem_toArray, List.getElem_cons_zero, List.getElem_cons_succ]
      refine wpAnyH_take (i := 1) (v := ?_) rfl (by kernel_rfl) (by kernel_rfl) (by kernel_rfl) (fun _ _ _ h => h) (Or.inl ⟨by rfl, ?_⟩) (by assumption) ?_
      rotate_left
      · (intro w9 hS9; try simp only [List.getElem_toArray, List.getElem_cons_zero, List.getElem_cons_succ]
         go_simp <;> rfl)
      try simp only [Act.put, List.setIfInBounds_toArray, List.set_cons_zero, List.set_cons_succ, List.getElem_toArray, List.getElem_cons_zero, List.getElem_cons_succ]
      refine wpAnyH_take (i := 2) (v := ?_) rfl (by kernel_rfl) (by kernel_rfl) (by kernel_rfl) (fun _ _ _ h => h) (Or.inl ⟨by rfl, ?_⟩) (by assumption) ?_
      rotate_left
      · (intro w9 hS9; try simp only [List.getElem_toArray, List.getElem_cons_zero, List.getElem_cons_succ]
         go_simp <;> rfl)
      try simp only [Act.put, List.setIfInBounds_toArray, List.set_cons_zero, List.set_cons_succ, List.getElem_toArray, List.getElem_cons_zero, List.getElem_cons_succ]
      refine wpAnyH_take (i := 4) (v := ?_) rfl (by kernel_rfl) (by kernel_rfl) (by kernel_rfl) (fun _ _ _ h => h) (Or.inl ⟨by rfl, ?_⟩) (by assumption) ?_
      rotate_left
      · (intro w9 hS9; try simp only [List.getElem_toArray, List.getElem_cons_zero, List.getElem_cons_succ]
         go_simp <;> rfl)
      try simp only [Act.put, List.setIfInBounds_toArray, List.set_cons_zero, List.set_cons_succ, List.getElem_toArray, List.getElem_cons_zero, List.getElem_cons_succ]
      refine wpAnyH_take (i := 7) (v := ?_) rfl (by kernel_rfl) (by kernel_rfl) (by kernel_rfl) (fun _ _ _ h => h) (Or.inl ⟨by rfl, ?_⟩) (by assumption) ?_
      rotate_left
      · (intro w9 hS9; try simp only [List.getElem_toArray, List.getElem_cons_zero, List.getElem_cons_succ]
         go_simp <;> rfl)
      try simp only [Act.put, List.setIfInBounds_toArray, List.set_cons_zero, List.set_cons_succ, List.getElem_toArray, List.getElem_cons_zero, List.getElem_cons_succ]
      refine wpAnyH_take (i := 8) (v := ?_) rfl (by kernel_rfl) (by kernel_rfl) (by kernel_rfl) (fun _ _ _ h => h) (Or.inl ⟨by rfl, ?_⟩) (by assumption) ?_
      rotate_left
      · (intro w9 hS9; try simp only [List.getElem_toArray, List.getElem_cons_zero, List.getElem_cons_succ]
         go_simp <;> rfl)
      try simp only [Act.put, List.setIfInBounds_toArray, List.set_cons_zero, List.set_cons_succ, List.getElem_toArray, List.getElem_cons_zero, List.getElem_cons_succ]
      refine wpAnyH_take (i := 9) (v := ?_) rfl (by kernel_rfl) (by kernel_rfl) (by kernel_rfl) (fun _ _ _ h => h) (Or.inl ⟨by rfl, ?_⟩) (by assumption) ?_
      rotate_left
      · (intro w9 hS9; try simp only [List.getElem_toArray, List.getElem_cons_zero, List.getElem_cons_succ]
         go_simp <;> rfl)
      try simp only [Act.put, List.setIfInBounds_toArray, List.set_cons_zero, List.set_cons_succ, List.getElem_toArray, List.getElem_cons_zero, List.getElem_cons_succ]
      refine wpAnyH_take (i := 10) (v := ?_) rfl (by kernel_rfl) (by kernel_rfl) (by kernel_rfl) (fun _ _ _ h => h) (Or.inl ⟨by rfl, ?_⟩) (by assumption) ?_
      rotate_left
      · (intro w9 hS9; try simp only [List.getElem_toArray, List.getElem_cons_zero, List.getElem_cons_succ]
         go_simp <;> rfl)
      try simp only [Act.put, List.setIfInBounds_toArray, List.set_cons_zero, List.set_cons_succ, List.getElem_toArray, List.getElem_cons_zero, List.getElem_cons_succ]
      refine wpAnyH_ready (rs := [3]) (by kernel_rfl) (by simp) ?_
      refine AllReadyH.cons rfl (fun K hK => ?_) AllReadyH.nil
      try simp only [List.getElem_toArray, List.getElem_cons_zero, List.getElem_cons_succ]
      try go_simp
      go_at_call 14
      refine (HScr.out _ HOv0.out).mono ?_
      rintro e V1 ⟨⟨B10, bc10, Rs10, rfl, hM, hr, hz, _⟩, hb⟩
      have HM10 := hide hM
      have HZ10 := hide hz
      have HOv1 := hide (HOv0.out.trans (Only.of_below hb NoBlk))
      have HPv1 := hide (hr.mono (M' := NoBlk) (fun _ h => h.elim))
      have HBv1 := hide (HBv0.out.below hb)
      clear hM hr hz hb
      refine hK.out _ _ (HBv1.out).eight8 (fun hHeld => ?_)
      clear hK K
      try simp only [Act.put, List.setIfInBounds_toArray, List.set_cons_zero, List.set_cons_succ, List.getElem_toArray, List.getElem_cons_zero, List.getElem_cons_succ]
      refine wpAnyH_ready (rs := [5]) (by kernel_rfl) (by simp) ?_
      refine AllReadyH.cons rfl (fun K hK => ?_) AllReadyH.nil
      try simp only [List.getElem_toArray, List.getElem_cons_zero, List.getElem_cons_succ]
      try go_simp
      go_at_call 13
      refine (HFew.out _ HOv1.out).mono ?_
      rintro e V2 ⟨A10, ac10, he10, rf, hbf, hcf⟩
      rw [← HFn.out] at he10 hcf
      subst he10
      have HRf10 := hide rf
      have HCf10 := hide hcf
      have HOv2 := hide (HOv1.out.trans (Only.of_below hbf NoBlk))
      have HPv2 := hide (HPv1.out.below hbf)
      have HBv2 := hide (HBv1.out.below hbf)
      clear rf hbf hcf
      refine hK.out _ _ (HBv2.out).eight8 (fun hHeld => ?_)
      clear hK K
      try simp only [Act.put, List.setIfInBounds_toArray, List.set_cons_zero, List.set_cons_succ, List.getElem_toArray, List.getElem_cons_zero, List.getElem_cons_succ]
      refine wpAnyH_ready (rs := [6]) (by kernel_rfl) (by simp) ?_
      refine AllReadyH.cons rfl (fun K hK => ?_) AllReadyH.nil
      try simp only [List.getElem_toArray, List.getElem_cons_zero, List.getElem_cons_succ]
      try go_simp
      go_at_call 20
      refine (HPLa.out Rs10 B10 bc10 A10 ac10 _ HM10.out HPv2.out HZ10.out HRf10.out HCf10.out).mono ?_
      rintro e V3 ⟨⟨A11, c11, rfl, hr11⟩, ho11⟩
      have HR11 := hide hr11
      have HOv3 := hide (HOv2.out.trans ho11)
      have HBv3 := hide (HBv2.out.only ho11 (fun h => h))
      clear hr11 ho11
      refine hK.out _ _ (HBv3.out).eight8 (fun hHeld => ?_)
      clear hK K
      try simp only [Act.put, List.setIfInBounds_toArray, List.set_cons_zero, List.set_cons_succ, List.getElem_toArray, List.getElem_cons_zero, List.getElem_cons_succ]
      refine wpAnyH_ready (rs := [11]) (by kernel_rfl) (by simp) ?_
      refine AllReadyH.cons rfl (fun K hK => ?_) AllReadyH.nil
      try simp only [List.getElem_toArray, List.getElem_cons_zero, List.getElem_cons_succ]
      try go_simp
      go_at_call 21
      refine (HRefL.out _ HOv3.out).mono ?_
      rintro e V4 ⟨⟨A12, c12, rfl, hr12⟩, hb12⟩
      have HSam2 := hide (sameLag_c NoBlk NoBlk A11 A12 c11 c12 LP V4 (HR11.out.below hb12) hr12 (by have := HLPl.out; omega))
      have HOv4 := hide (HOv3.out.trans (Only.of_below hb12 NoBlk))
      have HBv4 := hide (HBv3.out.below hb12)
      clear hr12 hb12
      refine hK.out _ _ (HBv4.out).eight8 (fun hHeld => ?_)
      clear hK K
      try simp only [Act.put, List.setIfInBounds_toArray, List.set_cons_zero, List.set_cons_succ, List.getElem_toArray, List.getElem_cons_zero, List.getElem_cons_succ]
      refine wpAnyH_ready (rs := [12]) (by kernel_rfl) (by simp) ?_
      refine AllReadyH.cons rfl (fun K hK => ?_) AllReadyH.nil
      try simp only [List.getElem_toArray, List.getElem_cons_zero, List.getElem_cons_succ]
      try go_simp
      go_at_call 17
      refine HSam2.out.mono ?_
      rintro e V5 ⟨rfl, hb13⟩
      have HOv5 := hide (HOv4.out.trans (Only.of_below hb13 NoBlk))
      have HBv5 := hide (HBv4.out.below hb13)
      clear hb13
      refine hK.out _ _ (HBv5.out).eight8 (fun hHeld => ?_)
      clear hK K
      try simp only [Act.put, List.setIfInBounds_toArray, List.set_cons_zero, List.set_cons_succ, List.getElem_toArray, List.getElem_cons_zero, List.getElem_cons_succ]
      refine wpAnyH_take (i := 13) (v := ?_) rfl (by kernel_rfl) (by kernel_rfl) (by kernel_rfl) (fun _ _ _ h => h) (Or.inl ⟨by rfl, ?_⟩) (by assumption) ?_
      rotate_left
      · (intro w9 hS9; try simp only [List.getElem_toArray, List.getElem_cons_zero, List.getElem_cons_succ]
         go_simp <;> rfl)
      try simp only [Act.put, List.setIfInBounds_toArray, List.set_cons_zero, List.set_cons_succ, List.getElem_toArray, List.getElem_cons_zero, List.getElem_cons_succ]
      refine wpAnyH_ready (rs := [14]) (by kernel_rfl) (by simp) ?_
      refine AllReadyH.cons rfl (fun K hK => ?_) AllReadyH.nil
      try simp only [List.getElem_toArray, List.getElem_cons_zero, List.getElem_cons_succ]
      try go_simp
      go_at_call 22
      refine (HLives.out _).mono ?_
      rintro e V6 ⟨rfl, ho14⟩
      have HOv6 := hide (HOv5.out.trans ho14)
      have HBv6 := hide (HBv5.out.only ho14 (fun h => h))
      clear ho14
      refine hK.out _ _ (HBv6.out).eight8 (fun hHeld => ?_)
      clear hK K
      try simp only [Act.put, List.setIfInBounds_toArray, List.set_cons_zero, List.set_cons_succ, List.getElem_toArray, List.getElem_cons_zero, List.getElem_cons_succ]
      refine wpAnyH_take (i := 15) (v := ?_) rfl (by kernel_rfl) (by kernel_rfl) (by kernel_rfl) (fun _ _ _ h => h) (Or.inl ⟨by rfl, ?_⟩) (by assumption) ?_
      rotate_left
      · (intro w9 hS9; try simp only [List.getElem_toArray, List.getElem_cons_zero, List.getElem_cons_succ]
         go_simp <;> rfl)
      try simp only [Act.put, List.setIfInBounds_toArray, List.set_cons_zero, List.set_cons_succ, List.getElem_toArray, List.getElem_cons_zero, List.getElem_cons_succ]
      refine wpAnyH_take (i := 16) (v := ?_) rfl (by kernel_rfl) (by kernel_rfl) (by kernel_rfl) (fun _ _ _ h => h) (Or.inl ⟨by rfl, ?_⟩) (by assumption) ?_
      rotate_left
      · (intro w9 hS9; try simp only [List.getElem_toArray, List.getElem_cons_zero, List.getElem_cons_succ]
         go_simp <;> rfl)
      try simp only [Act.put, List.setIfInBounds_toArray, List.set_cons_zero, List.set_cons_succ, List.getElem_toArray, List.getElem_cons_zero, List.getElem_cons_succ]
      refine wpAnyH_done (by kernel_rfl) ?_ _
      try simp only [Exit.then]
      clear hHeld
      go_wp2_with fail
      go_ret
      exact ⟨rfl, HO2.out.trans HOv6.out⟩
end Go.Proofs.YtdmdohjdmnmabaaGreat
