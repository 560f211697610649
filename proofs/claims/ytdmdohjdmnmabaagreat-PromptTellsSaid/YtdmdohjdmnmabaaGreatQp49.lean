/- The document's matches that took too long. Conditions: those of each theorem. -/
import Derived.Test.YtdmdohjdmnmabaaGreatQp44
import Derived.Test.YtdmdohjdmnmabaaGreatQp48
namespace Go.Proofs.YtdmdohjdmnmabaaGreat
open Go.RowKit
set_option linter.unusedVariables false
set_option linter.unusedSimpArgs false

set_option maxRecDepth 100000 in
set_option maxHeartbeats 6400000 in
theorem refRounds_c (a b c d e f : Int) (w : World) (hd : d ≤ 9223372036854775807) (he : e ≤ 9223372036854775807) (hf : f ≤ 9223372036854775807) :
    Calls Tryz.prog 16 #[.agg #[.int .i64 a, .int .i64 b, .int .i64 c, .int .i64 d, .int .i64 e, .int .i64 f]] w fun en w' => en = .returned (.int .i64 (roundsM ⟨a, b, c, d, e, f⟩)) ∧ Below w.heap.size w w' := by
  have HQ := hide (show roundsM ⟨a, b, c, d, e, f⟩ = if a < 0 ∨ b < 0 ∨ c < 0 ∨ d < 0 ∨ e < 0 ∨ f < 0 then 0 else max (f - max d e) 0 from rfl)
  obtain ⟨T, hT⟩ : ∃ T, T = roundsM ⟨a, b, c, d, e, f⟩ := ⟨_, rfl⟩
  rw [← hT] at HQ ⊢
  clear hT
  by_cases h : a < 0 ∨ b < 0 ∨ c < 0 ∨ d < 0 ∨ e < 0 ∨ f < 0
  · have HQ2 := hide (HQ.out.trans (if_pos h))
    go_enter Tryz.func16, Tryz.ntmps16
    go_wp2
    all_goals first
      | (exfalso; omega)
      | (go_ret; exact ⟨by rw [HQ2.out]; rfl, below_alloc _ _⟩)
  · have HQ2 := hide (HQ.out.trans (if_neg h))
    have d1 : decide (a < 0) = false := by simp; omega
    have d2 : decide (b < 0) = false := by simp; omega
    have d3 : decide (c < 0) = false := by simp; omega
    have d4 : decide (d < 0) = false := by simp; omega
    have d5 : decide (e < 0) = false := by simp; omega
    have d6 : decide (f < 0) = false := by simp; omega
    have w1 : IntKind.i64.wrap (f - d) = f - d := IntWalk.i64_in _ (by omega)
    have w2 : IntKind.i64.wrap (f - e) = f - e := IntWalk.i64_in _ (by omega)
    by_cases h1 : d < e
    · have d7 : decide (d < e) = true := by simp [h1]
      by_cases h2 : f < e
      · have d8 : decide (f < e) = true := by simp [h2]
        have HQ3 := hide (show T = 0 by rw [HQ2.out]; omega)
        clear h h1 h2
        go_enter Tryz.func16, Tryz.ntmps16
        go_wp2_with fail
        go_ret
        exact ⟨by rw [HQ3.out]; rfl, below_alloc _ _⟩
      · have d8 : decide (f < e) = false := by simp; omega
        have HQ3 := hide (show T = f - e by rw [HQ2.out]; omega)
        clear h h1 h2
        go_enter Tryz.func16, Tryz.ntmps16
        go_wp2_with fail
        go_ret
        exact ⟨by rw [HQ3.out]; rfl, below_alloc _ _⟩
    · have d7 : decide (d < e) = false := by simp; omega
      by_cases h2 : f < d
      · have d8 : decide (f < d) = true := by simp [h2]
        have HQ3 := hide (show T = 0 by rw [HQ2.out]; omega)
        clear h h1 h2
        go_enter Tryz.func16, Tryz.ntmps16
        go_wp2_with fail
        go_ret
        exact ⟨by rw [HQ3.out]; rfl, below_alloc _ _⟩
      · have d8 : decide (f < d) = false := by simp; omega
        have HQ3 := hide (show T = f - d by rw [HQ2.out]; omega)
        clear h h1 h2
        go_enter Tryz.func16, Tryz.ntmps16
        go_wp2_with fail
        go_ret
        exact ⟨by rw [HQ3.out]; rfl, below_alloc _ _⟩
theorem rd_own2 {w : World} {base size n c : Nat} {e : TypeId} {A : Option Addr} {xs : List Value} (h : w.ownsRow base e size (.slice A n c) n xs) : Rd w (fun b => b < base ∨ w.heap.size ≤ b) A xs := by
  rcases Rd.of_own (M := (· < base)) h (fun k hk => hk) with h | ⟨b, o, hA, hm, hb, hc⟩
  · exact Or.inl h
  · refine Or.inr ⟨b, o, hA, ?_, hb, hc⟩
    rintro (h | h)
    · exact hm h
    · omega
set_option maxRecDepth 100000 in
set_option maxHeartbeats 12800000 in
theorem refLate41_c (s : SetM) (SA : Option Addr) (sc : Nat) (Ps : List PrV) (A : Option Addr) (c : Nat) (l : List Ev) (w : World) (hs : PrsRd w NoBlk SA Ps) (hsn : Ps.length ≤ maxLen) (hsz : ∀ v ∈ Ps, PrSz v) (hr : Rd w NoBlk A (flat encEv l)) (hn : l.length ≤ 900) (hx : ∀ x ∈ l, x.s.size ≤ 100) :
    Calls Tryz.prog 21 #[.agg (setV s), .slice SA Ps.length sc, .slice A l.length c] w fun e w' => (∃ A1 c1, e = .returned (.slice A1 (lateP s Ps l).length c1) ∧ Rd w' NoBlk A1 (flat encLag (lateP s Ps l))) ∧ Below w.heap.size w w' := by
  obtain ⟨il, hil, hlz0, hlz1, hlz2⟩ := info_parts Tryz.infoRLag
  have HOf := hide (fun (w' : World) (k : Below w.heap.size w w') => refOf41_c SA sc Ps A c l w' ⟨hs.1.below k, fun v hv => ⟨((hs.2 v hv).1).below k, fun u hu => ((hs.2 v hv).2 u hu).below k⟩⟩ hsn hsz (hr.below k) hn hx)
  have HSm := hide (fun (x : LagM) (h : x ∈ promptM Ps l) => (lag_sm (by omega) h).1)
  have hlen := promptM_len Ps l hn hx
  have HQ := hide (show lateP s Ps l = if goodB s = true then keepL (promptB (waitS s)) (promptM Ps l) else [] from rfl)
  have HGd := hide (fun w' => refcGood_c s w')
  have HWt := hide (fun w' hg => refWait_c s w' hg)
  obtain ⟨TT, hTT⟩ : ∃ TT, TT = lateP s Ps l := ⟨_, rfl⟩
  rw [← hTT] at HQ ⊢
  obtain ⟨L, hL⟩ : ∃ L, L = promptM Ps l := ⟨_, rfl⟩
  rw [← hL] at HOf HSm HQ hlen
  obtain ⟨n, hnl⟩ : ∃ n, n = l.length := ⟨_, rfl⟩
  obtain ⟨np, hnp⟩ : ∃ np, np = Ps.length := ⟨_, rfl⟩
  rw [← hnl, ← hnp] at HOf
  rw [← hnl, ← hnp]
  obtain ⟨N, hN⟩ : ∃ N, N = L.length := ⟨_, rfl⟩
  rw [← hN] at HOf hlen
  have HN := hide hN
  obtain ⟨W, hW⟩ : ∃ W, W = w.alloc (.cells (setV s) 33) := ⟨_, rfl⟩
  have HB := hide (show Below w.heap.size w W by rw [hW]; exact below_alloc _ _)
  have HBs := hide (show Blk W w.heap.size 33 (setV s) by rw [hW]; exact Blk.new _ _ _)
  obtain ⟨W2, hW2⟩ : ∃ W2, W2 = W.alloc (.cells #[] 45) := ⟨_, rfl⟩
  have HB2 := hide (show Below w.heap.size w W2 by rw [hW2]; exact HB.out.alloc HB.out.size _)
  have HBs2 := hide (show Blk W2 w.heap.size 33 (setV s) by rw [hW2]; exact HBs.out.alloc _)
  have HO2 := hide (show W2.ownsRow (w.heap.size + 1) 45 6 (.slice (some ⟨w.heap.size + 1, 0, none⟩) 0 0) 0 (flat encLag []) by rw [hW2]; simpa [flat] using own_empty' (w := W) (base := w.heap.size + 1) (g := w.heap.size + 1) (e := 45) (size := 6) (by rw [hW]; simp) (by rw [hW]; simp))
  have HS2 := hide (show W2.heap.size = w.heap.size + 2 by rw [hW2, hW]; simp)
  have HWW := hide (show W2 = (w.alloc (.cells (setV s) 33)).alloc (.cells #[] 45) by rw [hW2, hW])
  clear hs hsn hsz hr hn hx hTT hL hnl hnp hN hW hW2
  go_enter Tryz.func21, Tryz.ntmps21
  go_wp2_with fail
  change Calls _ _ _ ((w.alloc (.cells (setV s) 33)).alloc (.cells #[] 45)) _
  rw [← HWW.out]
  refine (HOf.out _ HB2.out).mono ?_
  rintro e w1 ⟨⟨v, rfl, hown⟩, hb1⟩
  obtain ⟨VA, vc, rfl, _⟩ := own_cap hown
  obtain ⟨M1, hM1⟩ : ∃ M1 : Nat → Prop, M1 = (fun b => b < W2.heap.size ∨ w1.heap.size ≤ b) := ⟨_, rfl⟩
  have HR1 := hide (show Rd w1 M1 VA (flat encLag L) by rw [hM1]; exact rd_own2 hown)
  have HB1 := hide (HB2.out.trans (hb1.mono HB2.out.size))
  have HBs1 := hide (HBs2.out.below hb1)
  have HO1 := hide (own_only HO2.out (Only.of_below hb1 NoBlk) (fun _ _ h => h.elim))
  have HOn1 := hide (show ∀ kk, (Value.slice (some ⟨w.heap.size + 1, 0, none⟩) 0 0).ownBlock = some kk → M1 kk from fun kk hk => by
    rw [hM1]
    have hk2 : w.heap.size + 1 = kk := by simpa [Value.ownBlock] using hk
    exact Or.inl (by have := HS2.out; omega))
  have HMn := hide (show ∀ kk, w1.heap.size ≤ kk → M1 kk from fun kk hk => by rw [hM1]; exact Or.inr hk)
  have HW1 := hide (Nat.le_refl w1.heap.size)
  clear hown hb1 hM1
  go_wp2_with fail
  cases hg : goodB s with
  | false =>
    have HGf := hide (fun w' => by have := HGd.out w'; rw [hg] at this; exact this)
    have HQ2 := hide (show TT = [] by rw [HQ.out, hg]; rfl)
    clear hg HQ HGd HWt
    go_loopw [7, 9] (fun v i wr => v = .slice (some ⟨w.heap.size + 1, 0, none⟩) 0 0 ∧ i = .int .i64 0 ∧ Hid (Below w.heap.size w wr) ∧ Hid (Blk wr w.heap.size 33 (setV s))) (fun _ i _ => 1 - (intOf i).toNat)
    case atStart => exact ⟨rfl, rfl, HB1, HBs1⟩
    case round =>
      obtain ⟨rfl, rfl, HBr, HBsr⟩ := hrel
      obtain ⟨y0, y1, y2, y3, y4, y5⟩ := HBsr.out.six
      by_cases h0 : 0 < N
      · have d1 : decide ((0 : Int) < (N : Int)) = true := by simp; omega
        have d2 : decide (0 < N) = true := by simp; omega
        clear h0
        go_wp2_with fail
        refine (HGf.out _).mono ?_
        rintro e w2 ⟨rfl, hb2⟩
        have HB2' := hide (HBr.out.trans (hb2.mono HBr.out.size))
        clear hb2
        go_wp2_with fail
        go_ret
        rw [HQ2.out]
        exact ⟨⟨_, 0, rfl, Rd.nil⟩, HB2'.out⟩
      · have d1 : decide ((0 : Int) < (N : Int)) = false := by simp; omega
        have d2 : decide (0 < N) = false := by simp; omega
        clear h0
        go_wp2_with fail
        go_ret
        rw [HQ2.out]
        exact ⟨⟨_, 0, rfl, Rd.nil⟩, HBr.out⟩
  | true =>
    have HGt := hide (fun w' => by have := HGd.out w'; rw [hg] at this; exact this)
    have HWq := hide (fun w' => HWt.out w' hg)
    have HQ2 := hide (show TT = keepL (promptB (waitS s)) L by rw [HQ.out, hg]; rfl)
    obtain ⟨q, hq⟩ : ∃ q, q = waitS s := ⟨_, rfl⟩
    rw [← hq] at HWq HQ2
    clear hg HQ hq HGd HWt
    go_loopw [7, 9] (fun v i wr => ∃ (k : Nat) (out : List LagM), k ≤ N ∧ i = .int .i64 k ∧ Hid (keepL (promptB q) (L.take k) = out) ∧ Hid (wr.ownsRow (w.heap.size + 1) 45 6 v out.length (flat encLag out)) ∧ Hid (Below w.heap.size w wr) ∧ Hid (Blk wr w.heap.size 33 (setV s)) ∧ Hid (Rd wr M1 VA (flat encLag L)) ∧ Hid (∀ kk, v.ownBlock = some kk → M1 kk) ∧ Hid (w1.heap.size ≤ wr.heap.size)) (fun _ i _ => N - (intOf i).toNat)
    case atStart => exact ⟨0, [], Nat.zero_le _, rfl, hide rfl, HO1, HB1, HBs1, HR1, HOn1, HW1⟩
    case round =>
      clear HO1 HB1 HBs1 HR1 HOn1 HW1
      obtain ⟨k, out, hk, rfl, hout, HOw, HBr, HBsr, HR, HOn, HSz⟩ := hrel
      obtain ⟨OA, oc, rfl, hoc⟩ := own_cap HOw.out
      have hol : out.length ≤ 1000000 := by
        have h1 := keep_le (promptB q) (L.take k)
        rw [hout.out, List.length_take] at h1
        omega
      obtain ⟨m, hm⟩ : ∃ m, m = out.length := ⟨_, rfl⟩
      rw [← hm] at HOw hol hoc HOn ⊢
      have Hm := hide hm
      clear hm
      obtain ⟨y0, y1, y2, y3, y4, y5⟩ := HBsr.out.six
      by_cases hlt : k < N
      case neg =>
        obtain rfl : k = N := by omega
        have hd : decide ((k : Int) < (k : Int)) = false := by simp
        have hd2 : decide (k < k) = false := by simp
        have HF := hide (show TT = out by rw [HQ2.out, ← hout.out, HN.out, List.take_length])
        go_wp2_with fail
        go_ret
        rw [HF.out, ← Hm.out]
        exact ⟨⟨_, oc, rfl, Rd.of_own (M := NoBlk) HOw.out (fun _ h => h.elim)⟩, HBr.out⟩
      case pos =>
        obtain ⟨x, hx⟩ : ∃ x, L[k]? = some x := ⟨L[k]'(by rw [← HN.out]; exact hlt), List.getElem?_eq_getElem _⟩
        have HKs := hide (keep_succ (promptB q) L k x hx)
        have hsm := HSm.out x (List.mem_of_getElem? hx)
        have HRx := hide (fun w' => refRounds_c x.id x.step x.gone x.read x.from_ x.match_ w' hsm.1 hsm.2.1 hsm.2.2)
        obtain ⟨b, ob, rfl, _, hb, hc⟩ := flat_cells encLag_len HR.out k x hx (by omega)
        have HCx := hide (show ∀ w', Rd w' M1 (some ⟨b, ob, none⟩) (flat encLag L) → w'.cell? ⟨b, ob + k * 6, none⟩ = some (.int .i64 x.id) ∧ w'.cell? ⟨b, ob + k * 6 + 1, none⟩ = some (.int .i64 x.step) ∧ w'.cell? ⟨b, ob + k * 6 + 2, none⟩ = some (.int .i64 x.gone) ∧ w'.cell? ⟨b, ob + k * 6 + 3, none⟩ = some (.int .i64 x.read) ∧ w'.cell? ⟨b, ob + k * 6 + 4, none⟩ = some (.int .i64 x.from_) ∧ w'.cell? ⟨b, ob + k * 6 + 5, none⟩ = some (.int .i64 x.match_) from fun w' h => by
          obtain ⟨b2, o2, hA, _, _, hc⟩ := flat_cells encLag_len h k x hx (by omega)
          injection hA with hA
          injection hA with h1 h2
          subst h1 h2
          exact ⟨hc 0 (by omega), hc 1 (by omega), hc 2 (by omega), hc 3 (by omega), hc 4 (by omega), hc 5 (by omega)⟩)
        have HPb := hide (show promptB q x = decide (roundsM x ≤ q) from rfl)
        obtain ⟨r, hrr⟩ : ∃ r, r = roundsM x := ⟨_, rfl⟩
        have hr2 : roundsM ⟨x.id, x.step, x.gone, x.read, x.from_, x.match_⟩ = r := hrr.symm
        rw [hr2] at HRx
        rw [← hrr] at HPb
        have d1 : decide ((k : Int) < (N : Int)) = true := by simp; exact hlt
        have d2 : decide (k < N) = true := by simp; exact hlt
        have j1 : (0 : Int) ≤ (k : Int) := by omega
        have j2 : (k : Int) < (N : Int) := by omega
        have w0 : IntKind.i64.wrap ((k : Int) + 1) = (k : Int) + 1 := IntWalk.i64_in _ (by omega)
        clear hx hsm hc hrr hr2
        go_wp2_with fail
        refine (HGt.out _).mono ?_
        rintro e w2 ⟨rfl, hb2⟩
        have HB3 := hide (HBr.out.trans (hb2.mono HBr.out.size))
        have HBs3 := hide (HBsr.out.below hb2)
        have HOw3 := hide (own_only HOw.out (Only.of_below hb2 NoBlk) (fun _ _ h => h.elim))
        have HR3 := hide (HR.out.below hb2)
        have HSz3 := hide (Nat.le_trans HSz.out hb2.size)
        clear hb2 y0 y1 y2 y3 y4 y5 HOw HBr HBsr HR HSz
        go_upto_region 5 with fail
        obtain ⟨V0, hV0⟩ : ∃ V9, V9 = w2.drew := ⟨_, rfl⟩
        have HB0 := hide (show Below w.heap.size w V0 by rw [hV0]; exact below_drew' HB3.out)
        have HBs0 := hide (show Blk V0 w.heap.size 33 (setV s) by rw [hV0]; exact HBs3.out.drew)
        have HOw0 := hide (show V0.ownsRow (w.heap.size + 1) 45 6 (.slice OA m oc) m (flat encLag out) by rw [hV0]; exact own_only HOw3.out (Only.refl NoBlk _).drew (fun _ _ h => h.elim))
        have HR0 := hide (show Rd V0 M1 (some ⟨b, ob, none⟩) (flat encLag L) by rw [hV0]; exact HR3.out)
        have HSz0 := hide (show w1.heap.size ≤ V0.heap.size by rw [hV0]; exact HSz3.out)
        refine wp_region_held (S := fun w' => w'.cell? ⟨w.heap.size, 0, none⟩ = some (.int .i64 s.live) ∧ w'.cell? ⟨w.heap.size, 1, none⟩ = some (.int .i64 s.ring) ∧ w'.cell? ⟨w.heap.size, 2, none⟩ = some (.int .i64 s.win) ∧ w'.cell? ⟨w.heap.size, 3, none⟩ = some (.int .i64 s.out) ∧ w'.cell? ⟨w.heap.size, 4, none⟩ = some (.int .i64 s.quantum) ∧ w'.cell? ⟨w.heap.size, 5, none⟩ = some (.int .i64 s.visits) ∧ w'.cell? ⟨b, ob + k * 6, none⟩ = some (.int .i64 x.id) ∧ w'.cell? ⟨b, ob + k * 6 + 1, none⟩ = some (.int .i64 x.step) ∧ w'.cell? ⟨b, ob + k * 6 + 2, none⟩ = some (.int .i64 x.gone) ∧ w'.cell? ⟨b, ob + k * 6 + 3, none⟩ = some (.int .i64 x.read) ∧ w'.cell? ⟨b, ob + k * 6 + 4, none⟩ = some (.int .i64 x.from_) ∧ w'.cell? ⟨b, ob + k * 6 + 5, none⟩ = some (.int .i64 x.match_)) (by kernel_rfl) ?_
        change wpAnyH _ _ _ _ _ _ _ _ w2.drew
        have hHeld : (fun w' => w'.cell? ⟨w.heap.size, 0, none⟩ = some (.int .i64 s.live) ∧ w'.cell? ⟨w.heap.size, 1, none⟩ = some (.int .i64 s.ring) ∧ w'.cell? ⟨w.heap.size, 2, none⟩ = some (.int .i64 s.win) ∧ w'.cell? ⟨w.heap.size, 3, none⟩ = some (.int .i64 s.out) ∧ w'.cell? ⟨w.heap.size, 4, none⟩ = some (.int .i64 s.quantum) ∧ w'.cell? ⟨w.heap.size, 5, none⟩ = some (.int .i64 s.visits) ∧ w'.cell? ⟨b, ob + k * 6, none⟩ = some (.int .i64 x.id) ∧ w'.cell? ⟨b, ob + k * 6 + 1, none⟩ = some (.int .i64 x.step) ∧ w'.cell? ⟨b, ob + k * 6 + 2, none⟩ = some (.int .i64 x.gone) ∧ w'.cell? ⟨b, ob + k * 6 + 3, none⟩ = some (.int .i64 x.read) ∧ w'.cell? ⟨b, ob + k * 6 + 4, none⟩ = some (.int .i64 x.from_) ∧ w'.cell? ⟨b, ob + k * 6 + 5, none⟩ = some (.int .i64 x.match_)) w2.drew := by rw [← hV0]; exact (by obtain ⟨q0, q1, q2, q3, q4, q5⟩ := (HBs0.out).six; obtain ⟨r0, r1, r2, r3, r4, r5⟩ := HCx.out _ HR0.out; exact ⟨q0, q1, q2, q3, q4, q5, r0, r1, r2, r3, r4, r5⟩)
        rw [← hV0] at hHeld ⊢
        simp only [List.size_toArray, List.length_cons, List.length_nil, Nat.zero_add, Nat.reduceAdd]
        clear hV0
        refine wpAnyH_take (i := 0) (v := ?_) rfl (by kernel_rfl) (by kernel_rfl) (by kernel_rfl) (fun _ _ _ h => h) (Or.inl ⟨by rfl, ?_⟩) (by assumption) ?_
        rotate_left
        · (intro w9 hS9; try simp only [List.getElem_toArray, List.getElem_cons_zero, List.getElem_cons_succ]
           go_simp <;> rfl)
        try simp only [Act.put, List.setIfInBounds_toArray, List.set_cons_zero, List.set_cons_succ, List.getElem_toArray, List.getElem_cons_zero, List.getElem_cons_succ]
        refine wpAnyH_take (i := 1) (v := ?_) rfl (by kernel_rfl) (by kernel_rfl) (by kernel_rfl) (fun _ _ _ h => h) (Or.inl ⟨by rfl, ?_⟩) (by assumption) ?_
        rotate_left
        · (intro w9 hS9; try simp only [List.getElem_toArray, List.getElem_cons_zero, List.getElem_cons_succ]
           go_simp <;> rfl)
        try simp only [Act.put, List.setIfInBounds_toArray, List.set_cons_zero, List.set_cons_succ, List.getElem_toArray, List.getElem_cons_zero, List.getElem_cons_succ]
        refine wpAnyH_take (i := 2) (v := ?_) rfl (by kernel_rfl) (by kernel_rfl) (by kernel_rfl) (fun _ _ _ h => h) (Or.inl ⟨by rfl, ?_⟩) (by assumption) ?_
        rotate_left
        · (intro w9 hS9; try simp only [List.getElem_toArray, List.getElem_cons_zero, List.getElem_cons_succ]
           go_simp <;> rfl)
        try simp only [Act.put, List.setIfInBounds_toArray, List.set_cons_zero, List.set_cons_succ, List.getElem_toArray, List.getElem_cons_zero, List.getElem_cons_succ]
        refine wpAnyH_take (i := 3) (v := ?_) rfl (by kernel_rfl) (by kernel_rfl) (by kernel_rfl) (fun _ _ _ h => h) (Or.inl ⟨by rfl, ?_⟩) (by assumption) ?_
        rotate_left
        · (intro w9 hS9; try simp only [List.getElem_toArray, List.getElem_cons_zero, List.getElem_cons_succ]
           go_simp <;> rfl)
        try simp only [Act.put, List.setIfInBounds_toArray, List.set_cons_zero, List.set_cons_succ, List.getElem_toArray, List.getElem_cons_zero, List.getElem_cons_succ]
        refine wpAnyH_take (i := 5) (v := ?_) rfl (by kernel_rfl) (by kernel_rfl) (by kernel_rfl) (fun _ _ _ h => h) (Or.inl ⟨by rfl, ?_⟩) (by assumption) ?_
        rotate_left
        · (intro w9 hS9; try simp only [List.getElem_toArray, List.getElem_cons_zero, List.getElem_cons_succ]
           go_simp <;> rfl)
        try simp only [Act.put, List.setIfInBounds_toArray, List.set_cons_zero, List.set_cons_succ, List.getElem_toArray, List.getElem_cons_zero, List.getElem_cons_succ]
        refine wpAnyH_ready (rs := [4]) (by kernel_rfl) (by simp) ?_
        refine AllReadyH.cons rfl (fun K hK => ?_) AllReadyH.nil
        try simp only [List.getElem_toArray, List.getElem_cons_zero, List.getElem_cons_succ]
        try go_simp
        go_at_call 16
        refine (HRx.out _).mono ?_
        rintro e V5 ⟨rfl, hb5⟩
        have HB5 := hide (HB0.out.trans (hb5.mono HB0.out.size))
        have HBs5 := hide (HBs0.out.below hb5)
        have HOw5 := hide (own_only HOw0.out (Only.of_below hb5 NoBlk) (fun _ _ h => h.elim))
        have HR5 := hide (HR0.out.below hb5)
        have HSz5 := hide (Nat.le_trans HSz0.out hb5.size)
        clear hb5
        refine hK.out _ _ (by obtain ⟨q0, q1, q2, q3, q4, q5⟩ := (HBs5.out).six; obtain ⟨r0, r1, r2, r3, r4, r5⟩ := HCx.out _ HR5.out; exact ⟨q0, q1, q2, q3, q4, q5, r0, r1, r2, r3, r4, r5⟩) (fun hHeld => ?_)
        clear hK K
        try simp only [Act.put, List.setIfInBounds_toArray, List.set_cons_zero, List.set_cons_succ, List.getElem_toArray, List.getElem_cons_zero, List.getElem_cons_succ]
        refine wpAnyH_ready (rs := [6]) (by kernel_rfl) (by simp) ?_
        refine AllReadyH.cons rfl (fun K hK => ?_) AllReadyH.nil
        try simp only [List.getElem_toArray, List.getElem_cons_zero, List.getElem_cons_succ]
        try go_simp
        go_at_call 54
        refine (HWq.out _).mono ?_
        rintro e V6 ⟨rfl, hb5⟩
        have HB6 := hide (HB5.out.trans (hb5.mono HB5.out.size))
        have HBs6 := hide (HBs5.out.below hb5)
        have HOw6 := hide (own_only HOw5.out (Only.of_below hb5 NoBlk) (fun _ _ h => h.elim))
        have HR6 := hide (HR5.out.below hb5)
        have HSz6 := hide (Nat.le_trans HSz5.out hb5.size)
        clear hb5
        refine hK.out _ _ (by obtain ⟨q0, q1, q2, q3, q4, q5⟩ := (HBs6.out).six; obtain ⟨r0, r1, r2, r3, r4, r5⟩ := HCx.out _ HR6.out; exact ⟨q0, q1, q2, q3, q4, q5, r0, r1, r2, r3, r4, r5⟩) (fun hHeld => ?_)
        clear hK K
        try simp only [Act.put, List.setIfInBounds_toArray, List.set_cons_zero, List.set_cons_succ, List.getElem_toArray, List.getElem_cons_zero, List.getElem_cons_succ]
        refine wpAnyH_take (i := 7) (v := ?_) rfl (by kernel_rfl) (by kernel_rfl) (by kernel_rfl) (fun _ _ _ h => h) (Or.inl ⟨by rfl, ?_⟩) (by assumption) ?_
        rotate_left
        · (intro w9 hS9; try simp only [List.getElem_toArray, List.getElem_cons_zero, List.getElem_cons_succ]
           go_simp <;> rfl)
        try simp only [Act.put, List.setIfInBounds_toArray, List.set_cons_zero, List.set_cons_succ, List.getElem_toArray, List.getElem_cons_zero, List.getElem_cons_succ]
        refine wpAnyH_done (by kernel_rfl) ?_ _
        try simp only [Exit.then]
        clear hHeld
        by_cases hp : r ≤ q
        · have bp : decide (q < r) = false := by simp; omega
          have HKn := hide (show keepL (promptB q) (L.take (k + 1)) = out by rw [HKs.out, HPb.out, hout.out]; simp [hp])
          have HPn := hide hp
          clear hp
          go_wp2_with fail
          all_goals first
            | (exfalso; have := HPn.out; omega)
            | (go_roundw
               case rel => exact ⟨k + 1, out, by omega, by go_num, HKn, by rw [← Hm.out]; exact HOw6, HB6, HBs6, HR6, HOn, HSz6⟩
               case measure => simp [intOf]; omega)
        · have bp : decide (q < r) = true := by simp; omega
          have HKn := hide (show keepL (promptB q) (L.take (k + 1)) = out ++ [x] by rw [HKs.out, HPb.out, hout.out]; simp [hp])
          have HPn := hide hp
          clear hp
          obtain ⟨r0, r1, r2, r3, r4, r5⟩ := HCx.out _ HR6.out
          have HNew := hide (rd_blkN (M := NoBlk) (Blk.new V6 45 (encLag x).toArray) (fun h => h))
          have hga : w.heap.size + 1 ≤ V6.heap.size := HBs6.out.lt
          go_upto_region 6 with fail
          go_wp2_with (at_builtin; refine wpList_append_rd _ rfl (.tmp 32) (.tmp 37) _ rfl (w.heap.size + 1) 45 il _ 6 48 Tryz.underlying41 hil hlz0 hlz1 hlz2 rfl (by omega) _ m _ rfl (own_only HOw6.out ((Only.refl NoBlk V6).alloc (.cells (encLag x).toArray 45)) (fun _ _ h => h.elim)) NoBlk (some ⟨V6.heap.size, 0, none⟩) 1 1 (encLag x) rfl HNew.out rfl (encLag_one _) (by simp only [maxLen]; omega) (by omega) (by simp; omega) ?_; intro v2 wb hown2 hgr how; have Own2 := hide hown2; have Gr := hide hgr; have How := hide how; clear hown2 hgr how)
          have HB7 := hide ((HB6.out.alloc HB6.out.size (.cells (encLag x).toArray 45)).grown Gr.out (by simp; omega) (fun q hq => by have := own_ge HOw6.out q hq; omega))
          have HBs7 := hide (Blk.grown (HBs6.out.alloc (.cells (encLag x).toArray 45)) (own_only HOw6.out ((Only.refl NoBlk V6).alloc (.cells (encLag x).toArray 45)) (fun _ _ h => h.elim)) (by decide) Gr.out)
          have HR7 := hide (HR6.out.only (S := M1) (((Only.refl M1 V6).alloc (.cells (encLag x).toArray 45)).grown Gr.out (fun kk hk => Or.inl (HOn.out kk hk))) (fun _ h => h))
          have HSz7 := hide (show w1.heap.size ≤ wb.heap.size from Nat.le_trans (show w1.heap.size ≤ (V6.alloc (.cells (encLag x).toArray 45)).heap.size by have := HSz6.out; simp; omega) Gr.out.size)
          obtain ⟨A5, c5, rfl, _⟩ := own_cap Own2.out
          have HOn7 := hide (show ∀ kk, (Value.slice A5 (m + 1) c5).ownBlock = some kk → M1 kk from fun kk hk => by
            rcases How.out with h | h
            · exact HOn.out kk (h ▸ hk)
            · rw [h] at hk; injection hk with hk; subst hk; exact HMn.out _ (by have := HSz6.out; simp; omega))
          have HOwb := hide (show wb.ownsRow (w.heap.size + 1) 45 6 (.slice A5 (m + 1) c5) (m + 1) (flat encLag (out ++ [x])) from by
            have e : flat encLag (out ++ [x]) = flat encLag out ++ encLag x := by simp [flat]
            rw [e]
            exact Own2.out)
          clear Own2 Gr HNew How r0 r1 r2 r3 r4 r5
          go_roundw
          case rel => exact ⟨k + 1, out ++ [x], by omega, by go_num, HKn, by rw [List.length_append, ← Hm.out]; exact HOwb, HB7, HBs7, HR7, HOn7, HSz7⟩
          case measure => simp [intOf]; omega
end Go.Proofs.YtdmdohjdmnmabaaGreat
