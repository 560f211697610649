/- The document's sends that took too long. Conditions: those of each theorem. -/
import Derived.Test.YtdmdohjdmnmabaaGreatQs48
import Derived.Test.YtdmdohjdmnmabaaGreatQs51
import Derived.Test.YtdmdohjdmnmabaaGreatQs21
namespace Go.Proofs.YtdmdohjdmnmabaaGreat
open Go.RowKit
set_option linter.unusedVariables false
set_option linter.unusedSimpArgs false

theorem rd_own2 {w : World} {base size n c : Nat} {e : TypeId} {A : Option Addr} {xs : List Value} (h : w.ownsRow base e size (.slice A n c) n xs) : Rd w (fun b => b < base ∨ w.heap.size ≤ b) A xs := by
  rcases Rd.of_own (M := (· < base)) h (fun k hk => hk) with h | ⟨b, o, hA, hm, hb, hc⟩
  · exact Or.inl h
  · refine Or.inr ⟨b, o, hA, ?_, hb, hc⟩
    rintro (h | h)
    · exact hm h
    · omega
set_option maxRecDepth 100000 in
set_option maxHeartbeats 12800000 in
theorem refLate36_c (s : SetM) (SA : Option Addr) (sc : Nat) (Ps : List PrV) (A : Option Addr) (c : Nat) (l : List Ev) (write : Int) (w : World) (hs : PrsRd w NoBlk SA Ps) (hsn : Ps.length ≤ maxLen) (hsz : ∀ v ∈ Ps, PrSz v) (hr : Rd w NoBlk A (flat encEv l)) (hn : l.length ≤ 900) (hx : ∀ x ∈ l, x.s.size ≤ 100) :
    Calls Tryz.prog 34 #[.agg (setV s), .slice SA Ps.length sc, .slice A l.length c, .int .i64 write] w fun e w' => (∃ A1 c1, e = .returned (.slice A1 (lateSd s Ps l write).length c1) ∧ Rd w' NoBlk A1 (flat encSd (lateSd s Ps l write))) ∧ Below w.heap.size w w' := by
  obtain ⟨il, hil, hlz0, hlz1, hlz2⟩ := info_parts Tryz.infoRSd
  have HOf := hide (fun (w' : World) (k : Below w.heap.size w w') => refOf36_c SA sc Ps A c l w' ⟨hs.1.below k, fun v hv => ⟨((hs.2 v hv).1).below k, fun u hu => ((hs.2 v hv).2 u hu).below k⟩⟩ hsn hsz (hr.below k) hn hx)
  have HSm := hide (fun (x : SdM) (h : x ∈ allS Ps l) => show 0 ≤ x.from_ ∧ x.from_ ≤ 1000 from by have := allS_sm h; omega)
  have hlen := allS_len Ps l hn
  have HQ2 := hide (show lateSd s Ps l write = keepL (sendOk s write (lastR l)) (allS Ps l) from rfl)
  have HEv := hide (fun (w' : World) (k : Below w.heap.size w w') (i : Nat) (hi : i < l.length) => ev_cells (hr.below k) i hi)
  have HCt := hide (fun i hi => cnt_of2 l i hi)
  have HCl := hide (show ∀ q, (clocksL (l.take q)).length ≤ 900 from fun q => by
    have h1 : (clocksL (l.take q)).length ≤ (l.take q).length := by unfold clocksL; rw [List.length_map]; exact List.length_filter_le _ _
    rw [List.length_take] at h1
    omega)
  have HLr := hide (show lastR l = ((clocksL (l.take l.length)).length : Int) - 1 by rw [List.take_length]; rfl)
  obtain ⟨LR, hLR⟩ : ∃ LR, LR = lastR l := ⟨_, rfl⟩
  rw [← hLR] at HQ2 HLr
  have HBd := hide (fun (x : SdM) w' => refsBound_c s x write w')
  obtain ⟨TT, hTT⟩ : ∃ TT, TT = lateSd s Ps l write := ⟨_, rfl⟩
  rw [← hTT] at HQ2 ⊢
  obtain ⟨L, hL⟩ : ∃ L, L = allS Ps l := ⟨_, rfl⟩
  rw [← hL] at HOf HSm HQ2 hlen
  obtain ⟨n, hnl⟩ : ∃ n, n = l.length := ⟨_, rfl⟩
  obtain ⟨np, hnp⟩ : ∃ np, np = Ps.length := ⟨_, rfl⟩
  rw [← hnl, ← hnp] at HOf
  rw [← hnl] at HEv HCt HLr hn
  rw [← hnl, ← hnp]
  obtain ⟨N, hN⟩ : ∃ N, N = L.length := ⟨_, rfl⟩
  rw [← hN] at HOf hlen
  have HN := hide hN
  obtain ⟨W, hW⟩ : ∃ W, W = w.alloc (.cells (setV s) 33) := ⟨_, rfl⟩
  have HB := hide (show Below w.heap.size w W by rw [hW]; exact below_alloc _ _)
  have HBs := hide (show Blk W w.heap.size 33 (setV s) by rw [hW]; exact Blk.new _ _ _)
  obtain ⟨W2, hW2⟩ : ∃ W2, W2 = W.alloc (.cells #[] 110) := ⟨_, rfl⟩
  have HB2 := hide (show Below w.heap.size w W2 by rw [hW2]; exact HB.out.alloc HB.out.size _)
  have HBs2 := hide (show Blk W2 w.heap.size 33 (setV s) by rw [hW2]; exact HBs.out.alloc _)
  have HO2 := hide (show W2.ownsRow (w.heap.size + 1) 110 7 (.slice (some ⟨w.heap.size + 1, 0, none⟩) 0 0) 0 (flat encSd []) by rw [hW2]; simpa [flat] using own_empty' (w := W) (base := w.heap.size + 1) (g := w.heap.size + 1) (e := 110) (size := 7) (by rw [hW]; simp) (by rw [hW]; simp))
  have HS2 := hide (show W2.heap.size = w.heap.size + 2 by rw [hW2, hW]; simp)
  have HWW := hide (show W2 = (w.alloc (.cells (setV s) 33)).alloc (.cells #[] 110) by rw [hW2, hW])
  clear hs hsn hsz hr hx hTT hL hnl hnp hN hW hW2 hLR
  go_enter Tryz.func34, Tryz.ntmps34
  go_wp2_with fail
  change Calls _ _ _ ((w.alloc (.cells (setV s) 33)).alloc (.cells #[] 110)) _
  rw [← HWW.out]
  refine (HOf.out _ HB2.out).mono ?_
  rintro e w1 ⟨⟨v, rfl, hown⟩, hb1⟩
  obtain ⟨VA, vc, rfl, _⟩ := own_cap hown
  obtain ⟨M1, hM1⟩ : ∃ M1 : Nat → Prop, M1 = (fun b => b < W2.heap.size ∨ w1.heap.size ≤ b) := ⟨_, rfl⟩
  have HR1 := hide (show Rd w1 M1 VA (flat encSd L) by rw [hM1]; exact rd_own2 hown)
  have HB1 := hide (HB2.out.trans (hb1.mono HB2.out.size))
  have HBs1 := hide (HBs2.out.below hb1)
  have HO1 := hide (own_only HO2.out (Only.of_below hb1 NoBlk) (fun _ _ h => h.elim))
  have HOn1 := hide (show ∀ kk, (Value.slice (some ⟨w.heap.size + 1, 0, none⟩) 0 0).ownBlock = some kk → M1 kk from fun kk hk => by
    rw [hM1]
    have hk2 : w.heap.size + 1 = kk := by simpa [Value.ownBlock] using hk
    exact Or.inl (by have := HS2.out; omega))
  have HMn := hide (show ∀ kk, w1.heap.size ≤ kk → M1 kk from fun kk hk => by rw [hM1]; exact Or.inr hk)
  obtain ⟨W1s, hW1s⟩ : ∃ W1s, W1s = w1.heap.size := ⟨_, rfl⟩
  rw [← hW1s] at HMn
  have HW1 := hide (show W1s ≤ w1.heap.size by rw [hW1s]; exact Nat.le_refl _)
  clear hown hb1 hM1 hW1s
  go_wp2_with fail
  go_loopw [11, 12] (fun m i wr => ∃ k : Nat, k ≤ n ∧ i = .int .i64 k ∧ m = .int .i64 (((clocksL (l.take k)).length : Int) - 1) ∧ Hid (wr = w1)) (fun _ i _ => n - (intOf i).toNat)
  case atStart => exact ⟨0, Nat.zero_le _, rfl, by simp [clocksL], hide rfl⟩
  case round =>
    obtain ⟨k, hk, rfl, rfl, hwr⟩ := hrel
    obtain rfl := hwr.out
    have hcl := HCl.out k
    have w1' : IntKind.i64.wrap ((k : Int) + 1) = (k : Int) + 1 := IntWalk.i64_in _ (by omega)
    by_cases hlt : k < n
    case pos =>
      obtain ⟨eb, eo, rfl, _, heb, y0, y1, y2, y3, y4, y5, y6, y7, y8, y9, y10, y11⟩ := HEv.out _ HB1.out k hlt
      have HC1 := hide (HCt.out k hlt)
      obtain ⟨ek, hek⟩ : ∃ ek, ek = (evAt l k).k := ⟨_, rfl⟩
      rw [← hek] at y0 HC1
      obtain ⟨m0, hm0⟩ : ∃ m0, m0 = (clocksL (l.take k)).length := ⟨_, rfl⟩
      rw [← hm0] at HC1 hcl ⊢
      have d1 : decide ((k : Int) < (n : Int)) = true := by simp; exact hlt
      have d2 : decide (k < n) = true := by simp; exact hlt
      have j1 : (0 : Int) ≤ (k : Int) := by omega
      have j2 : (k : Int) < (n : Int) := by omega
      have w2' : IntKind.i64.wrap ((m0 : Int) - 1 + 1) = (m0 : Int) := by rw [IntWalk.i64_in _ (by omega)]; omega
      clear y1 y2 y3 y4 y5 y6 y7 y8 y9 y10 y11 hek hm0
      by_cases h1 : ek = 1
      · have b1 : (ek == 1) = true := by simp [h1]
        have HC2 := hide (show (((clocksL (l.take (k + 1))).length : Nat) : Int) - 1 = (m0 : Int) by rw [HC1.out, if_pos h1]; omega)
        clear h1
        go_wp2_with fail
        go_roundw
        case rel => exact ⟨k + 1, by omega, by go_num, by rw [HC2.out], hide trivial⟩
        case measure => simp [intOf]; omega
      · have b1 : (ek == 1) = false := by simp [h1]
        have HC2 := hide (show (((clocksL (l.take (k + 1))).length : Nat) : Int) - 1 = (m0 : Int) - 1 by rw [HC1.out, if_neg h1]; omega)
        clear h1
        go_wp2_with fail
        go_roundw
        case rel => exact ⟨k + 1, by omega, by go_num, by rw [HC2.out], hide trivial⟩
        case measure => simp [intOf]; omega
    case neg =>
      obtain rfl : k = n := by omega
      have d1 : decide ((k : Int) < (k : Int)) = false := by simp
      have d2 : decide (k < k) = false := by simp
      rw [← HLr.out]
      have hlr : -1 ≤ LR ∧ LR ≤ 900 := by rw [HLr.out]; omega
      clear hcl hlt
      go_wp2_with fail
      go_loopw [9, 13] (fun v i wr => ∃ (q : Nat) (out : List SdM), q ≤ N ∧ i = .int .i64 q ∧ Hid (keepL (sendOk s write LR) (L.take q) = out) ∧ Hid (wr.ownsRow (w.heap.size + 1) 110 7 v out.length (flat encSd out)) ∧ Hid (Below w.heap.size w wr) ∧ Hid (Blk wr w.heap.size 33 (setV s)) ∧ Hid (Rd wr M1 VA (flat encSd L)) ∧ Hid (∀ kk, v.ownBlock = some kk → M1 kk) ∧ Hid (W1s ≤ wr.heap.size)) (fun _ i _ => N - (intOf i).toNat)
      case atStart => exact ⟨0, [], Nat.zero_le _, rfl, hide rfl, HO1, HB1, HBs1, HR1, HOn1, HW1⟩
      case round =>
        clear HO1 HB1 HBs1 HR1 HOn1 HW1
        obtain ⟨q, out, hq, rfl, hout, HOw, HBr, HBsr, HR, HOn, HSz⟩ := hrel
        obtain ⟨OA, oc, rfl, hoc⟩ := own_cap HOw.out
        have hol : out.length ≤ 1000000 := by
          have h1 := keep_le (sendOk s write LR) (L.take q)
          rw [hout.out, List.length_take] at h1
          omega
        obtain ⟨m, hm⟩ : ∃ m, m = out.length := ⟨_, rfl⟩
        rw [← hm] at HOw hol hoc HOn ⊢
        have Hm := hide hm
        clear hm
        have w0 : IntKind.i64.wrap ((q : Int) + 1) = (q : Int) + 1 := IntWalk.i64_in _ (by omega)
        by_cases hlt : q < N
        case neg =>
          obtain rfl : q = N := by omega
          have hd : decide ((q : Int) < (q : Int)) = false := by simp
          have hd2 : decide (q < q) = false := by simp
          have HF := hide (show TT = out by rw [HQ2.out, ← hout.out, HN.out, List.take_length])
          go_wp2_with fail
          go_ret
          rw [HF.out, ← Hm.out]
          exact ⟨⟨_, oc, rfl, Rd.of_own (M := NoBlk) HOw.out (fun _ h => h.elim)⟩, HBr.out⟩
        case pos =>
          obtain ⟨x, hx⟩ : ∃ x, L[q]? = some x := ⟨L[q]'(by rw [← HN.out]; exact hlt), List.getElem?_eq_getElem _⟩
          have HKs := hide (keep_succ (sendOk s write LR) L q x hx)
          have hsm := HSm.out x (List.mem_of_getElem? hx)
          have HBx := hide (HBd.out x)
          have hbd := boundS_bd s x.long write
          obtain ⟨b, ob, rfl, _, hb, hc⟩ := flat_cells encSd_len HR.out q x hx (by omega)
          have HCx := hide (show ∀ (w' : World), Rd w' M1 (some ⟨b, ob, none⟩) (flat encSd L) → w'.cell? ⟨b, ob + q * 7, none⟩ = some (.int .i64 x.id) ∧ w'.cell? ⟨b, ob + q * 7 + 1, none⟩ = some (.int .i64 x.op) ∧ w'.cell? ⟨b, ob + q * 7 + 2, none⟩ = some (.int .i64 x.long) ∧ w'.cell? ⟨b, ob + q * 7 + 3, none⟩ = some (.int .i64 x.from_) ∧ w'.cell? ⟨b, ob + q * 7 + 4, none⟩ = some (.int .i64 x.taken) ∧ w'.cell? ⟨b, ob + q * 7 + 5, none⟩ = some (.bool x.done) ∧ w'.cell? ⟨b, ob + q * 7 + 6, none⟩ = some (.int .i64 x.at_) from fun w' h => by
            obtain ⟨b2, o2, hA, _, _, hc⟩ := flat_cells encSd_len h q x hx (by omega)
            injection hA with hA
            injection hA with h1 h2
            subst h1 h2
            exact ⟨hc 0 (by omega), hc 1 (by omega), hc 2 (by omega), hc 3 (by omega), hc 4 (by omega), hc 5 (by omega), hc 6 (by omega)⟩)
          have HOk := hide (show sendOk s write LR x = ((decide (boundS s x.long write = 0) || decide (LR < x.from_ + boundS s x.long write)) || (x.done && decide (x.at_ ≤ x.from_ + boundS s x.long write))) from rfl)
          obtain ⟨bd, hbe⟩ : ∃ bd, bd = boundS s x.long write := ⟨_, rfl⟩
          rw [← hbe] at HBx hbd HOk
          have w5 : IntKind.i64.wrap (x.from_ + bd) = x.from_ + bd := IntWalk.i64_in _ (by omega)
          have d3 : decide ((q : Int) < (N : Int)) = true := by simp; exact hlt
          have d4 : decide (q < N) = true := by simp; exact hlt
          have j3 : (0 : Int) ≤ (q : Int) := by omega
          have j4 : (q : Int) < (N : Int) := by omega
          clear hx hc hbe
          go_upto_region 10 with fail
          obtain ⟨V0, hV0⟩ : ∃ V9, V9 = wr.drew := ⟨_, rfl⟩
          have HB0 := hide (show Below w.heap.size w V0 by rw [hV0]; exact below_drew' HBr.out)
          have HBs0 := hide (show Blk V0 w.heap.size 33 (setV s) by rw [hV0]; exact HBsr.out.drew)
          have HOw0 := hide (show V0.ownsRow (w.heap.size + 1) 110 7 (.slice OA m oc) m (flat encSd out) by rw [hV0]; exact own_only HOw.out (Only.refl NoBlk _).drew (fun _ _ h => h.elim))
          have HR0 := hide (show Rd V0 M1 (some ⟨b, ob, none⟩) (flat encSd L) by rw [hV0]; exact HR.out)
          have HSz0 := hide (show W1s ≤ V0.heap.size by rw [hV0]; exact HSz.out)
          clear HBr HBsr HOw HR HSz
          refine wp_region_held (S := fun w' => w'.cell? ⟨w.heap.size, 0, none⟩ = some (.int .i64 s.live) ∧ w'.cell? ⟨w.heap.size, 1, none⟩ = some (.int .i64 s.ring) ∧ w'.cell? ⟨w.heap.size, 2, none⟩ = some (.int .i64 s.win) ∧ w'.cell? ⟨w.heap.size, 3, none⟩ = some (.int .i64 s.out) ∧ w'.cell? ⟨w.heap.size, 4, none⟩ = some (.int .i64 s.quantum) ∧ w'.cell? ⟨w.heap.size, 5, none⟩ = some (.int .i64 s.visits) ∧ w'.cell? ⟨b, ob + q * 7, none⟩ = some (.int .i64 x.id) ∧ w'.cell? ⟨b, ob + q * 7 + 1, none⟩ = some (.int .i64 x.op) ∧ w'.cell? ⟨b, ob + q * 7 + 2, none⟩ = some (.int .i64 x.long) ∧ w'.cell? ⟨b, ob + q * 7 + 3, none⟩ = some (.int .i64 x.from_) ∧ w'.cell? ⟨b, ob + q * 7 + 4, none⟩ = some (.int .i64 x.taken) ∧ w'.cell? ⟨b, ob + q * 7 + 5, none⟩ = some (.bool x.done) ∧ w'.cell? ⟨b, ob + q * 7 + 6, none⟩ = some (.int .i64 x.at_)) (by kernel_rfl) ?_
          change wpAnyH _ _ _ _ _ _ _ _ wr.drew
          have hHeld : (fun w' => w'.cell? ⟨w.heap.size, 0, none⟩ = some (.int .i64 s.live) ∧ w'.cell? ⟨w.heap.size, 1, none⟩ = some (.int .i64 s.ring) ∧ w'.cell? ⟨w.heap.size, 2, none⟩ = some (.int .i64 s.win) ∧ w'.cell? ⟨w.heap.size, 3, none⟩ = some (.int .i64 s.out) ∧ w'.cell? ⟨w.heap.size, 4, none⟩ = some (.int .i64 s.quantum) ∧ w'.cell? ⟨w.heap.size, 5, none⟩ = some (.int .i64 s.visits) ∧ w'.cell? ⟨b, ob + q * 7, none⟩ = some (.int .i64 x.id) ∧ w'.cell? ⟨b, ob + q * 7 + 1, none⟩ = some (.int .i64 x.op) ∧ w'.cell? ⟨b, ob + q * 7 + 2, none⟩ = some (.int .i64 x.long) ∧ w'.cell? ⟨b, ob + q * 7 + 3, none⟩ = some (.int .i64 x.from_) ∧ w'.cell? ⟨b, ob + q * 7 + 4, none⟩ = some (.int .i64 x.taken) ∧ w'.cell? ⟨b, ob + q * 7 + 5, none⟩ = some (.bool x.done) ∧ w'.cell? ⟨b, ob + q * 7 + 6, none⟩ = some (.int .i64 x.at_)) wr.drew := by rw [← hV0]; exact (by obtain ⟨q0, q1, q2, q3, q4, q5⟩ := (HBs0.out).six; obtain ⟨r0, r1, r2, r3, r4, r5, r6⟩ := HCx.out _ HR0.out; exact ⟨q0, q1, q2, q3, q4, q5, r0, r1, r2, r3, r4, r5, r6⟩)
          rw [← hV0] at hHeld ⊢
          simp only [List.size_toArray, List.length_cons, List.length_nil, Nat.zero_add, Nat.reduceAdd]
          clear hV0
          refine wpAnyH_take (i := 0) (v := ?_) rfl (by kernel_rfl) (by kernel_rfl) (by kernel_rfl) (fun _ _ _ h => h) (Or.inl ⟨by rfl, ?_⟩) (by assumption) ?_
          rotate_left
          · (intro w9 hS9; try simp only [List.getElem_toArray, List.getElem_cons_zero, List.getElem_cons_succ]
             go_simp <;> rfl)
          refine wpAnyH_take (i := 1) (v := ?_) rfl (by kernel_rfl) (by kernel_rfl) (by kernel_rfl) (fun _ _ _ h => h) (Or.inl ⟨by rfl, ?_⟩) (by assumption) ?_
          rotate_left
          · (intro w9 hS9; try simp only [List.getElem_toArray, List.getElem_cons_zero, List.getElem_cons_succ]
             go_simp <;> rfl)
          refine wpAnyH_take (i := 2) (v := ?_) rfl (by kernel_rfl) (by kernel_rfl) (by kernel_rfl) (fun _ _ _ h => h) (Or.inl ⟨by rfl, ?_⟩) (by assumption) ?_
          rotate_left
          · (intro w9 hS9; try simp only [List.getElem_toArray, List.getElem_cons_zero, List.getElem_cons_succ]
             go_simp <;> rfl)
          refine wpAnyH_take (i := 3) (v := ?_) rfl (by kernel_rfl) (by kernel_rfl) (by kernel_rfl) (fun _ _ _ h => h) (Or.inl ⟨by rfl, ?_⟩) (by assumption) ?_
          rotate_left
          · (intro w9 hS9; try simp only [List.getElem_toArray, List.getElem_cons_zero, List.getElem_cons_succ]
             go_simp <;> rfl)
          refine wpAnyH_take (i := 4) (v := ?_) rfl (by kernel_rfl) (by kernel_rfl) (by kernel_rfl) (fun _ _ _ h => h) (Or.inl ⟨by rfl, ?_⟩) (by assumption) ?_
          rotate_left
          · (intro w9 hS9; try simp only [List.getElem_toArray, List.getElem_cons_zero, List.getElem_cons_succ]
             go_simp <;> rfl)
          refine wpAnyH_take (i := 5) (v := ?_) rfl (by kernel_rfl) (by kernel_rfl) (by kernel_rfl) (fun _ _ _ h => h) (Or.inl ⟨by rfl, ?_⟩) (by assumption) ?_
          rotate_left
          · (intro w9 hS9; try simp only [List.getElem_toArray, List.getElem_cons_zero, List.getElem_cons_succ]
             go_simp <;> rfl)
          try simp only [Act.put, List.setIfInBounds_toArray, List.set_cons_zero, List.set_cons_succ, List.getElem_toArray, List.getElem_cons_zero, List.getElem_cons_succ]
          refine wpAnyH_ready (rs := [6]) (by kernel_rfl) (by simp) ?_
          refine AllReadyH.cons rfl (fun K hK => ?_) AllReadyH.nil
          try simp only [List.getElem_toArray, List.getElem_cons_zero, List.getElem_cons_succ]
          try go_simp
          go_at_call 69
          refine (HBx.out _).mono ?_
          rintro e V6 ⟨rfl, hb5⟩
          have HB6 := hide (HB0.out.trans (hb5.mono HB0.out.size))
          have HBs6 := hide (HBs0.out.below hb5)
          have HOw6 := hide (own_only HOw0.out (Only.of_below hb5 NoBlk) (fun _ _ h => h.elim))
          have HR6 := hide (HR0.out.below hb5)
          have HSz6 := hide (Nat.le_trans HSz0.out hb5.size)
          clear hb5
          refine hK.out _ _ (by obtain ⟨q0, q1, q2, q3, q4, q5⟩ := (HBs6.out).six; obtain ⟨r0, r1, r2, r3, r4, r5, r6⟩ := HCx.out _ HR6.out; exact ⟨q0, q1, q2, q3, q4, q5, r0, r1, r2, r3, r4, r5, r6⟩) (fun hHeld => ?_)
          clear hK K
          refine wpAnyH_take (i := 7) (v := ?_) rfl (by kernel_rfl) (by kernel_rfl) (by kernel_rfl) (fun _ _ _ h => h) (Or.inl ⟨by rfl, ?_⟩) (by assumption) ?_
          rotate_left
          · (intro w9 hS9; try simp only [List.getElem_toArray, List.getElem_cons_zero, List.getElem_cons_succ]
             go_simp <;> rfl)
          try simp only [Act.put, List.setIfInBounds_toArray, List.set_cons_zero, List.set_cons_succ, List.getElem_toArray, List.getElem_cons_zero, List.getElem_cons_succ]
          refine wpAnyH_done (by kernel_rfl) ?_ _
          try simp only [Exit.then]
          clear hHeld
          by_cases h0 : 0 < bd
          case neg =>
            have b0 : decide (0 < bd) = false := by simpa using h0
            have HV := hide (show sendOk s write LR x = true by rw [HOk.out, show decide (bd = 0) = true by simp; omega]; rfl)
            clear h0
            go_upto_region 11 with fail
            obtain ⟨r0, r1, r2, r3, r4, r5, r6⟩ := HCx.out _ HR6.out
            go_quiet (fail)
            clear r0 r1 r2 r3 r4 r5 r6
            generalize hV0 : World.drewN V6 _ = V7
            have HB7 := hide (show Below w.heap.size w V7 by rw [← hV0]; exact ⟨HB6.out.os, HB6.out.tape, HB6.out.output, HB6.out.size, HB6.out.block⟩)
            have HBs7 := hide (show Blk V7 w.heap.size 33 (setV s) by rw [← hV0]; exact HBs6.out.drewN _)
            have HOw7 := hide (show V7.ownsRow (w.heap.size + 1) 110 7 (.slice OA m oc) m (flat encSd out) by rw [← hV0]; exact own_only HOw6.out ((Only.refl NoBlk _).drewN _) (fun _ _ h => h.elim))
            have HR7 := hide (show Rd V7 M1 (some ⟨b, ob, none⟩) (flat encSd L) by rw [← hV0]; exact HR6.out.drewN _)
            have HSz7 := hide (show W1s ≤ V7.heap.size by rw [← hV0]; exact HSz6.out)
            clear hV0
            have HKn := hide (show keepL (sendOk s write LR) (L.take (q + 1)) = out by rw [HKs.out, HV.out, hout.out]; simp)
            go_wp2_with fail
            go_roundw
            case rel => exact ⟨q + 1, out, by omega, by go_num, HKn, by rw [← Hm.out]; exact HOw7, HB7, HBs7, HR7, HOn, HSz7⟩
            case measure => simp [intOf]; omega
          case pos =>
            have b0 : decide (0 < bd) = true := by simp [h0]
            have e0 : decide (bd = 0) = false := by simp; omega
            clear h0
            by_cases h1 : x.from_ + bd ≤ LR
            case neg =>
              have b1 : decide (x.from_ + bd ≤ LR) = false := by simpa using h1
              have HV := hide (show sendOk s write LR x = true by rw [HOk.out, show decide (LR < x.from_ + bd) = true by simp; omega]; simp)
              clear h1
              go_upto_region 11 with fail
              obtain ⟨r0, r1, r2, r3, r4, r5, r6⟩ := HCx.out _ HR6.out
              go_quiet (fail)
              clear r0 r1 r2 r3 r4 r5 r6
              generalize hV0 : World.drewN V6 _ = V7
              have HB7 := hide (show Below w.heap.size w V7 by rw [← hV0]; exact ⟨HB6.out.os, HB6.out.tape, HB6.out.output, HB6.out.size, HB6.out.block⟩)
              have HBs7 := hide (show Blk V7 w.heap.size 33 (setV s) by rw [← hV0]; exact HBs6.out.drewN _)
              have HOw7 := hide (show V7.ownsRow (w.heap.size + 1) 110 7 (.slice OA m oc) m (flat encSd out) by rw [← hV0]; exact own_only HOw6.out ((Only.refl NoBlk _).drewN _) (fun _ _ h => h.elim))
              have HR7 := hide (show Rd V7 M1 (some ⟨b, ob, none⟩) (flat encSd L) by rw [← hV0]; exact HR6.out.drewN _)
              have HSz7 := hide (show W1s ≤ V7.heap.size by rw [← hV0]; exact HSz6.out)
              clear hV0
              have HKn := hide (show keepL (sendOk s write LR) (L.take (q + 1)) = out by rw [HKs.out, HV.out, hout.out]; simp)
              go_wp2_with fail
              go_roundw
              case rel => exact ⟨q + 1, out, by omega, by go_num, HKn, by rw [← Hm.out]; exact HOw7, HB7, HBs7, HR7, HOn, HSz7⟩
              case measure => simp [intOf]; omega
            case pos =>
              have b1 : decide (x.from_ + bd ≤ LR) = true := by simp [h1]
              have e1 : decide (LR < x.from_ + bd) = false := by simp; omega
              clear h1
              cases hd : x.done with
              | false =>
                have HV := hide (show sendOk s write LR x = false by rw [HOk.out, e0, e1, hd]; rfl)
                rw [hd] at HCx
                go_upto_region 11 with fail
                obtain ⟨r0, r1, r2, r3, r4, r5, r6⟩ := HCx.out _ HR6.out
                go_quiet (fail)
                clear r0 r1 r2 r3 r4 r5 r6
                generalize hV0 : World.drewN V6 _ = V7
                have HB7 := hide (show Below w.heap.size w V7 by rw [← hV0]; exact ⟨HB6.out.os, HB6.out.tape, HB6.out.output, HB6.out.size, HB6.out.block⟩)
                have HBs7 := hide (show Blk V7 w.heap.size 33 (setV s) by rw [← hV0]; exact HBs6.out.drewN _)
                have HOw7 := hide (show V7.ownsRow (w.heap.size + 1) 110 7 (.slice OA m oc) m (flat encSd out) by rw [← hV0]; exact own_only HOw6.out ((Only.refl NoBlk _).drewN _) (fun _ _ h => h.elim))
                have HR7 := hide (show Rd V7 M1 (some ⟨b, ob, none⟩) (flat encSd L) by rw [← hV0]; exact HR6.out.drewN _)
                have HSz7 := hide (show W1s ≤ V7.heap.size by rw [← hV0]; exact HSz6.out)
                clear hV0
                rw [← hd] at HCx
                clear hd
                have HKn := hide (show keepL (sendOk s write LR) (L.take (q + 1)) = out ++ [x] by rw [HKs.out, HV.out, hout.out]; simp)
                obtain ⟨r0, r1, r2, r3, r4, r5, r6⟩ := HCx.out _ HR7.out
                have HNew := hide (rd_blkN (M := NoBlk) (Blk.new V7 110 (encSd x).toArray) (fun h => h))
                have hga : w.heap.size + 1 ≤ V7.heap.size := HBs7.out.lt
                go_upto_region 12 with fail
                go_wp2_with (at_builtin; refine wpList_append_rd _ rfl (.tmp 82) (.tmp 87) _ rfl (w.heap.size + 1) 110 il _ 7 56 Tryz.underlying65 hil hlz0 hlz1 hlz2 rfl (by omega) _ m _ rfl (own_only HOw7.out ((Only.refl NoBlk V7).alloc (.cells (encSd x).toArray 110)) (fun _ _ h => h.elim)) NoBlk (some ⟨V7.heap.size, 0, none⟩) 1 1 (encSd x) rfl HNew.out rfl (encSd_one _) (by simp only [maxLen]; omega) (by omega) (by simp; omega) ?_; intro v2 wb hown2 hgr how; have Own2 := hide hown2; have Gr := hide hgr; have How := hide how; clear hown2 hgr how)
                have HB8 := hide ((HB7.out.alloc HB7.out.size (.cells (encSd x).toArray 110)).grown Gr.out (by simp; omega) (fun q hq => by have := own_ge HOw7.out q hq; omega))
                have HBs8 := hide (Blk.grown (HBs7.out.alloc (.cells (encSd x).toArray 110)) (own_only HOw7.out ((Only.refl NoBlk V7).alloc (.cells (encSd x).toArray 110)) (fun _ _ h => h.elim)) (by decide) Gr.out)
                have HR8 := hide (HR7.out.only (S := M1) (((Only.refl M1 V7).alloc (.cells (encSd x).toArray 110)).grown Gr.out (fun kk hk => Or.inl (HOn.out kk hk))) (fun _ h => h))
                have HSz8 := hide (show W1s ≤ wb.heap.size from Nat.le_trans (show W1s ≤ (V7.alloc (.cells (encSd x).toArray 110)).heap.size by have := HSz7.out; simp; omega) Gr.out.size)
                obtain ⟨A5, c5, rfl, _⟩ := own_cap Own2.out
                have HOn8 := hide (show ∀ kk, (Value.slice A5 (m + 1) c5).ownBlock = some kk → M1 kk from fun kk hk => by
                  rcases How.out with h | h
                  · exact HOn.out kk (h ▸ hk)
                  · rw [h] at hk; injection hk with hk; subst hk; exact HMn.out _ (by have := HSz7.out; simp; omega))
                have HOwb := hide (show wb.ownsRow (w.heap.size + 1) 110 7 (.slice A5 (m + 1) c5) (m + 1) (flat encSd (out ++ [x])) from by
                  have e : flat encSd (out ++ [x]) = flat encSd out ++ encSd x := by simp [flat]
                  rw [e]
                  exact Own2.out)
                clear Own2 Gr HNew How r0 r1 r2 r3 r4 r5 r6
                go_roundw
                case rel => exact ⟨q + 1, out ++ [x], by omega, by go_num, HKn, by rw [List.length_append, ← Hm.out]; exact HOwb, HB8, HBs8, HR8, HOn8, HSz8⟩
                case measure => simp [intOf]; omega
              | true =>
                have HOd := hide (show sendOk s write LR x = decide (x.at_ ≤ x.from_ + bd) by rw [HOk.out, e0, e1, hd]; rfl)
                rw [hd] at HCx
                by_cases h2 : x.at_ ≤ x.from_ + bd
                · have b2 : decide (x.from_ + bd < x.at_) = false := by simp; omega
                  have HV := hide (show sendOk s write LR x = true by rw [HOd.out]; simp [h2])
                  clear h2
                  go_upto_region 11 with fail
                  obtain ⟨r0, r1, r2, r3, r4, r5, r6⟩ := HCx.out _ HR6.out
                  go_quiet (fail)
                  clear r0 r1 r2 r3 r4 r5 r6
                  generalize hV0 : World.drewN V6 _ = V7
                  have HB7 := hide (show Below w.heap.size w V7 by rw [← hV0]; exact ⟨HB6.out.os, HB6.out.tape, HB6.out.output, HB6.out.size, HB6.out.block⟩)
                  have HBs7 := hide (show Blk V7 w.heap.size 33 (setV s) by rw [← hV0]; exact HBs6.out.drewN _)
                  have HOw7 := hide (show V7.ownsRow (w.heap.size + 1) 110 7 (.slice OA m oc) m (flat encSd out) by rw [← hV0]; exact own_only HOw6.out ((Only.refl NoBlk _).drewN _) (fun _ _ h => h.elim))
                  have HR7 := hide (show Rd V7 M1 (some ⟨b, ob, none⟩) (flat encSd L) by rw [← hV0]; exact HR6.out.drewN _)
                  have HSz7 := hide (show W1s ≤ V7.heap.size by rw [← hV0]; exact HSz6.out)
                  clear hV0
                  have HKn := hide (show keepL (sendOk s write LR) (L.take (q + 1)) = out by rw [HKs.out, HV.out, hout.out]; simp)
                  go_wp2_with fail
                  go_roundw
                  case rel => exact ⟨q + 1, out, by omega, by go_num, HKn, by rw [← Hm.out]; exact HOw7, HB7, HBs7, HR7, HOn, HSz7⟩
                  case measure => simp [intOf]; omega
                · have b2 : decide (x.from_ + bd < x.at_) = true := by simp; omega
                  have HV := hide (show sendOk s write LR x = false by rw [HOd.out]; simp [h2])
                  clear h2
                  go_upto_region 11 with fail
                  obtain ⟨r0, r1, r2, r3, r4, r5, r6⟩ := HCx.out _ HR6.out
                  go_quiet (fail)
                  clear r0 r1 r2 r3 r4 r5 r6
                  generalize hV0 : World.drewN V6 _ = V7
                  have HB7 := hide (show Below w.heap.size w V7 by rw [← hV0]; exact ⟨HB6.out.os, HB6.out.tape, HB6.out.output, HB6.out.size, HB6.out.block⟩)
                  have HBs7 := hide (show Blk V7 w.heap.size 33 (setV s) by rw [← hV0]; exact HBs6.out.drewN _)
                  have HOw7 := hide (show V7.ownsRow (w.heap.size + 1) 110 7 (.slice OA m oc) m (flat encSd out) by rw [← hV0]; exact own_only HOw6.out ((Only.refl NoBlk _).drewN _) (fun _ _ h => h.elim))
                  have HR7 := hide (show Rd V7 M1 (some ⟨b, ob, none⟩) (flat encSd L) by rw [← hV0]; exact HR6.out.drewN _)
                  have HSz7 := hide (show W1s ≤ V7.heap.size by rw [← hV0]; exact HSz6.out)
                  clear hV0
                  rw [← hd] at HCx
                  clear hd
                  have HKn := hide (show keepL (sendOk s write LR) (L.take (q + 1)) = out ++ [x] by rw [HKs.out, HV.out, hout.out]; simp)
                  obtain ⟨r0, r1, r2, r3, r4, r5, r6⟩ := HCx.out _ HR7.out
                  have HNew := hide (rd_blkN (M := NoBlk) (Blk.new V7 110 (encSd x).toArray) (fun h => h))
                  have hga : w.heap.size + 1 ≤ V7.heap.size := HBs7.out.lt
                  go_upto_region 12 with fail
                  go_wp2_with (at_builtin; refine wpList_append_rd _ rfl (.tmp 82) (.tmp 87) _ rfl (w.heap.size + 1) 110 il _ 7 56 Tryz.underlying65 hil hlz0 hlz1 hlz2 rfl (by omega) _ m _ rfl (own_only HOw7.out ((Only.refl NoBlk V7).alloc (.cells (encSd x).toArray 110)) (fun _ _ h => h.elim)) NoBlk (some ⟨V7.heap.size, 0, none⟩) 1 1 (encSd x) rfl HNew.out rfl (encSd_one _) (by simp only [maxLen]; omega) (by omega) (by simp; omega) ?_; intro v2 wb hown2 hgr how; have Own2 := hide hown2; have Gr := hide hgr; have How := hide how; clear hown2 hgr how)
                  have HB8 := hide ((HB7.out.alloc HB7.out.size (.cells (encSd x).toArray 110)).grown Gr.out (by simp; omega) (fun q hq => by have := own_ge HOw7.out q hq; omega))
                  have HBs8 := hide (Blk.grown (HBs7.out.alloc (.cells (encSd x).toArray 110)) (own_only HOw7.out ((Only.refl NoBlk V7).alloc (.cells (encSd x).toArray 110)) (fun _ _ h => h.elim)) (by decide) Gr.out)
                  have HR8 := hide (HR7.out.only (S := M1) (((Only.refl M1 V7).alloc (.cells (encSd x).toArray 110)).grown Gr.out (fun kk hk => Or.inl (HOn.out kk hk))) (fun _ h => h))
                  have HSz8 := hide (show W1s ≤ wb.heap.size from Nat.le_trans (show W1s ≤ (V7.alloc (.cells (encSd x).toArray 110)).heap.size by have := HSz7.out; simp; omega) Gr.out.size)
                  obtain ⟨A5, c5, rfl, _⟩ := own_cap Own2.out
                  have HOn8 := hide (show ∀ kk, (Value.slice A5 (m + 1) c5).ownBlock = some kk → M1 kk from fun kk hk => by
                    rcases How.out with h | h
                    · exact HOn.out kk (h ▸ hk)
                    · rw [h] at hk; injection hk with hk; subst hk; exact HMn.out _ (by have := HSz7.out; simp; omega))
                  have HOwb := hide (show wb.ownsRow (w.heap.size + 1) 110 7 (.slice A5 (m + 1) c5) (m + 1) (flat encSd (out ++ [x])) from by
                    have e : flat encSd (out ++ [x]) = flat encSd out ++ encSd x := by simp [flat]
                    rw [e]
                    exact Own2.out)
                  clear Own2 Gr HNew How r0 r1 r2 r3 r4 r5 r6
                  go_roundw
                  case rel => exact ⟨q + 1, out ++ [x], by omega, by go_num, HKn, by rw [List.length_append, ← Hm.out]; exact HOwb, HB8, HBs8, HR8, HOn8, HSz8⟩
                  case measure => simp [intOf]; omega
end Go.Proofs.YtdmdohjdmnmabaaGreat
