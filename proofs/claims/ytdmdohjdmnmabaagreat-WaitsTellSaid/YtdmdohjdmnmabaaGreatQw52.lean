/- The document's waits that took too long. Conditions: those of each theorem. -/
import Derived.Test.YtdmdohjdmnmabaaGreatQw45
import Derived.Test.YtdmdohjdmnmabaaGreatQw51
namespace Go.Proofs.YtdmdohjdmnmabaaGreat
open Go.RowKit
set_option linter.unusedVariables false
set_option linter.unusedSimpArgs false

/-- the contract of the document's waits -/
def RefOf35C : Prop := ∀ (SA : Option Addr) (sc : Nat) (Ps : List PrV) (A : Option Addr) (c : Nat) (l : List Ev) (w : World), PrsRd w NoBlk SA Ps → Ps.length ≤ maxLen → (∀ v ∈ Ps, PrSz v) → (∀ v ∈ Ps, PrNn v) → Rd w NoBlk A (flat encEv l) → l.length ≤ 900 → (∀ x ∈ l, x.s.size ≤ 100) → TkOk l →
 Calls Tryz.prog 25 #[.slice SA Ps.length sc, .slice A l.length c] w fun e w' => (∃ v, e = .returned v ∧ w'.ownsRow w.heap.size 102 7 v (waitsM Ps l).length (flat encWt (waitsM Ps l))) ∧ Below w.heap.size w w'
/-- where the round stands -/
structure LS35 (w : World) (z : Nat) (M1 : Nat → Prop) (s : SetM) (VA : Option Addr) (L : List WtM) (wr : World) (v : Value) (out : List WtM) : Prop where
 bel : Below w.heap.size w wr
 bs : Blk wr w.heap.size 33 (setV s)
 rd : Rd wr M1 VA (flat encWt L)
 oo : wr.ownsRow (w.heap.size + 1) 102 7 v out.length (flat encWt out)
 om : ∀ k, v.ownBlock = some k → M1 k
 sz : z ≤ wr.heap.size
section
variable {w wr w' : World} {z : Nat} {M1 : Nat → Prop} {s : SetM} {VA : Option Addr} {L out : List WtM} {v v' : Value} {x : WtM}
theorem LS35.below (h : LS35 w z M1 s VA L wr v out) (k : Below wr.heap.size wr w') : LS35 w z M1 s VA L w' v out :=
 ⟨h.bel.trans (k.mono h.bel.size), h.bs.below k, h.rd.below k, own_bel h.oo k, h.om, Nat.le_trans h.sz k.size⟩
theorem LS35.grow (h : LS35 w z M1 s VA L wr v out) (hM : ∀ k, z ≤ k → M1 k) (hg : wr.grownBy w' v.ownBlock) (ho : w'.ownsRow (w.heap.size + 1) 102 7 v' (out.length + 1) (flat encWt out ++ encWt x)) (how : v'.ownBlock = v.ownBlock ∨ v'.ownBlock = some wr.heap.size) : LS35 w z M1 s VA L w' v' (out ++ [x]) := by
 have e : flat encWt (out ++ [x]) = flat encWt out ++ encWt x := by simp [flat]
 refine ⟨h.bel.grown hg h.bel.size (fun k hk => by have := own_ge h.oo k hk; omega), h.bs.grown h.oo (by decide) hg, h.rd.only ((Only.refl M1 wr).grown hg (fun k hk => Or.inl (h.om k hk))) (fun _ h => h), by rw [e, List.length_append]; exact ho, fun k hk => ?_, Nat.le_trans h.sz hg.size⟩
 rcases how with e | e
 ·exact h.om k (e ▸ hk)
 ·rw [e] at hk
  injection hk with hk
  have := h.sz
  exact hM k (by omega)
end
theorem rd_own35 {w : World} {base size n c : Nat} {e : TypeId} {A : Option Addr} {xs : List Value} (h : w.ownsRow base e size (.slice A n c) n xs) : Rd w (fun b => b < base ∨ w.heap.size ≤ b) A xs := by
 rcases Rd.of_own (M := (· < base)) h (fun k hk => hk) with h | ⟨b, o, hA, hm, hb, hc⟩
 ·exact Or.inl h
 ·refine Or.inr ⟨b, o, hA, ?_, hb, hc⟩
  rintro (h | h)
  ·exact hm h
  ·omega
set_option maxRecDepth 100000 in
set_option maxHeartbeats 12800000 in
theorem refLate35_c (H35 : RefOf35C) (s : SetM) (SA : Option Addr) (sc : Nat) (Ps : List PrV) (A : Option Addr) (c : Nat) (l : List Ev) (each : Int) (w : World) (he : each ≤ 9223372036854775807) (hs : PrsRd w NoBlk SA Ps) (hsn : Ps.length ≤ maxLen) (hsz : ∀ v ∈ Ps, PrSz v) (hnn : ∀ v ∈ Ps, PrNn v) (hr : Rd w NoBlk A (flat encEv l)) (hn : l.length ≤ 900) (hx : ∀ x ∈ l, x.s.size ≤ 100) (htk : TkOk l) :
 Calls Tryz.prog 29 #[.agg (setV s), .slice SA Ps.length sc, .slice A l.length c, .int .i64 each] w fun e w' => (∃ A1 c1, e = .returned (.slice A1 (lateWt s Ps l each).length c1) ∧ Rd w' NoBlk A1 (flat encWt (lateWt s Ps l each))) ∧ Below w.heap.size w w' := by
 obtain ⟨il, hil, hlz0, hlz1, hlz2⟩ := info_parts Tryz.infoRWt
 have HOf := hide (fun (w' : World) (k : Below w.heap.size w w') => H35 SA sc Ps A c l w' ⟨hs.1.below k, fun v hv => ⟨((hs.2 v hv).1).below k, fun u hu => ((hs.2 v hv).2 u hu).below k⟩⟩ hsn hsz hnn (hr.below k) hn hx htk)
 have HLst := hide (fun (w' : World) (k : Below w.heap.size w w') => refLast_c NoBlk A c l w' (hr.below k) (by omega))
 have HSm := hide (fun (x : WtM) (h : x ∈ waitsM Ps l) => waitsM_u h)
 have hlen := waitsM_len Ps l hx hn
 have HQ2 := hide (show lateWt s Ps l each = if goodB s = true ∧ 1 ≤ each then keepL (waitOk s each (clockOf 0 l)) (waitsM Ps l) else [] from rfl)
 have HGd := hide (fun w' => refcGood_c s w')
 have HUn := hide (fun (hg : goodB s = true) (at_ : Int) (ha : at_ ≤ 9223372036854775807) w' => refUntil_c s at_ each w' hg ha he)
 obtain ⟨LR, hLR⟩ : ∃ LR, LR = clockOf 0 l := ⟨_, rfl⟩
 rw [← hLR] at HLst HQ2
 obtain ⟨gd, hgd⟩ : ∃ gd, gd = goodB s := ⟨_, rfl⟩
 rw [← hgd] at HGd HQ2 HUn
 obtain ⟨TT, hTT⟩ : ∃ TT, TT = lateWt s Ps l each := ⟨_, rfl⟩
 rw [← hTT] at HQ2 ⊢
 obtain ⟨L, hL⟩ : ∃ L, L = waitsM Ps l := ⟨_, rfl⟩
 rw [← hL] at HOf HSm HQ2 hlen
 obtain ⟨n, hnl⟩ : ∃ n, n = l.length := ⟨_, rfl⟩
 obtain ⟨np, hnp⟩ : ∃ np, np = Ps.length := ⟨_, rfl⟩
 rw [← hnl, ← hnp] at HOf
 rw [← hnl] at HLst
 rw [← hnl, ← hnp]
 obtain ⟨N, hN⟩ : ∃ N, N = L.length := ⟨_, rfl⟩
 rw [← hN] at HOf hlen
 have HN := hide hN
 obtain ⟨W, hW⟩ : ∃ W, W = w.alloc (.cells (setV s) 33) := ⟨_, rfl⟩
 have HB := hide (show Below w.heap.size w W by rw [hW]; exact below_alloc _ _)
 have HBs := hide (show Blk W w.heap.size 33 (setV s) by rw [hW]; exact Blk.new _ _ _)
 obtain ⟨W2, hW2⟩ : ∃ W2, W2 = W.alloc (.cells #[] 102) := ⟨_, rfl⟩
 have HB2 := hide (show Below w.heap.size w W2 by rw [hW2]; exact HB.out.alloc HB.out.size _)
 have HBs2 := hide (show Blk W2 w.heap.size 33 (setV s) by rw [hW2]; exact HBs.out.alloc _)
 have HO2 := hide (show W2.ownsRow (w.heap.size + 1) 102 7 (.slice (some ⟨w.heap.size + 1, 0, none⟩) 0 0) 0 (flat encWt []) by rw [hW2]; simpa [flat] using own_empty' (w := W) (base := w.heap.size + 1) (g := w.heap.size + 1) (e := 102) (size := 7) (by rw [hW]; simp) (by rw [hW]; simp))
 have HS2 := hide (show W2.heap.size = w.heap.size + 2 by rw [hW2, hW]; simp)
 have HWW := hide (show W2 = (w.alloc (.cells (setV s) 33)).alloc (.cells #[] 102) by rw [hW2, hW])
 clear hs hsn hsz hnn hr hx htk hTT hL hnl hnp hN hW hW2 hLR hgd he hn
 go_enter Tryz.func29, Tryz.ntmps29
 go_wp2_with fail
 change Calls _ _ _ ((w.alloc (.cells (setV s) 33)).alloc (.cells #[] 102)) _
 rw [← HWW.out]
 refine (HOf.out _ HB2.out).mono ?_
 rintro e w1 ⟨⟨v, rfl, hown⟩, hb1⟩
 obtain ⟨VA, vc, rfl, _⟩ := own_cap hown
 obtain ⟨M1, hM1⟩ : ∃ M1 : Nat → Prop, M1 = (fun b => b < W2.heap.size ∨ w1.heap.size ≤ b) := ⟨_, rfl⟩
 obtain ⟨z, hz⟩ : ∃ z, z = w1.heap.size := ⟨_, rfl⟩
 have HMn := hide (show ∀ kk, z ≤ kk → M1 kk from fun kk hk => by rw [hM1]; exact Or.inr (hz ▸ hk))
 have HJ0 := hide (show LS35 w z M1 s VA L w1 (.slice (some ⟨w.heap.size + 1, 0, none⟩) 0 0) [] from ⟨HB2.out.trans (hb1.mono HB2.out.size), HBs2.out.below hb1, by rw [hM1]; exact rd_own35 hown, own_bel HO2.out hb1, fun kk hk => by
  rw [hM1]
  have hk2 : w.heap.size + 1 = kk := by simpa [Value.ownBlock] using hk
  exact Or.inl (by have := HS2.out; omega), by rw [hz]; exact Nat.le_refl _⟩)
 clear hown hb1 hM1 hz HO2 HBs2 HB2 HB HBs
 go_wp2_with fail
 go_loopw [9, 11] (fun v i wr => ∃ (q : Nat) (out : List WtM), q ≤ N ∧ i = .int .i64 q ∧ Hid (0 < q → gd = true ∧ 1 ≤ each) ∧ Hid (keepL (waitOk s each LR) (L.take q) = out) ∧ Hid (LS35 w z M1 s VA L wr v out)) (fun _ i _ => N - (intOf i).toNat)
 case atStart => exact ⟨0, [], Nat.zero_le _, rfl, hide (fun h => by omega), hide rfl, HJ0⟩
 case round =>
  clear HJ0
  obtain ⟨q, out, hq, rfl, hcnd, hout, HJ⟩ := hrel
  obtain ⟨OA, oc, rfl, hoc⟩ := own_cap HJ.out.oo
  have hol : out.length ≤ 1000000 := by
   have h1 := keep_le (waitOk s each LR) (L.take q)
   rw [hout.out, List.length_take] at h1
   omega
  have w0 : IntKind.i64.wrap ((q : Int) + 1) = (q : Int) + 1 := IntWalk.i64_in _ (by omega)
  have HEnd := hide (show ¬ (q < N ∧ gd = true ∧ 1 ≤ each) → TT = out from fun h => by
   rw [HQ2.out]
   by_cases hc : gd = true ∧ 1 ≤ each
   ·rw [if_pos hc]
    have : q = N := by
     rcases Nat.lt_or_ge q N with h1 | h1
     ·exact absurd ⟨h1, hc⟩ h
     ·omega
    rw [← hout.out, this, HN.out, List.take_length]
   ·rw [if_neg hc]
    have : q = 0 := by
     rcases Nat.eq_zero_or_pos q with h1 | h1
     ·exact h1
     ·exact absurd (hcnd.out h1) hc
    rw [← hout.out, this]
    rfl)
  have HFin := hide (show TT = out → (∃ A1 c1, Ending.returned (.slice OA out.length oc) = .returned (.slice A1 TT.length c1) ∧ Rd wr NoBlk A1 (flat encWt TT)) from fun h => ⟨OA, oc, by rw [h], by rw [h]; exact Rd.of_own (M := NoBlk) HJ.out.oo (fun _ h => h.elim)⟩)
  by_cases hlt : q < N
  case neg =>
   obtain rfl : q = N := by omega
   have hd : decide ((q : Int) < (q : Int)) = false := by simp
   have hd2 : decide (q < q) = false := by simp
   have HF := hide (HFin.out (HEnd.out (fun h => hlt h.1)))
   go_wp2_with fail
   go_ret
   exact ⟨HF.out, HJ.out.bel⟩
  case pos =>
   have d3 : decide ((q : Int) < (N : Int)) = true := by simp; exact hlt
   have d4 : decide (q < N) = true := by simp; exact hlt
   have j3 : (0 : Int) ≤ (q : Int) := by omega
   have j4 : (q : Int) < (N : Int) := by omega
   obtain ⟨x, hx⟩ : ∃ x, L[q]? = some x := ⟨L[q]'(by rw [← HN.out]; exact hlt), List.getElem?_eq_getElem _⟩
   have HKs := hide (keep_succ (waitOk s each LR) L q x hx)
   have hxu := HSm.out x (List.mem_of_getElem? hx)
   obtain ⟨wj, hwj⟩ : ∃ wj, wj = wr := ⟨_, rfl⟩
   subst hwj
   obtain ⟨b, ob, hVA, _, _, _⟩ := flat_cells encWt_len HJ.out.rd q x hx (by omega)
   subst hVA
   have HC := hide (show ∀ V, Below wj.heap.size wj V → (V.cell? ⟨w.heap.size, 0, none⟩ = some (.int .i64 s.live) ∧ V.cell? ⟨w.heap.size, 1, none⟩ = some (.int .i64 s.ring) ∧ V.cell? ⟨w.heap.size, 2, none⟩ = some (.int .i64 s.win) ∧ V.cell? ⟨w.heap.size, 3, none⟩ = some (.int .i64 s.out) ∧ V.cell? ⟨w.heap.size, 4, none⟩ = some (.int .i64 s.quantum) ∧ V.cell? ⟨w.heap.size, 5, none⟩ = some (.int .i64 s.visits)) ∧ V.cell? ⟨b, ob + q * 7, none⟩ = some (.int .i64 x.id) ∧ V.cell? ⟨b, ob + q * 7 + 1, none⟩ = some (.int .i64 x.op) ∧ V.cell? ⟨b, ob + q * 7 + 2, none⟩ = some (.int .i64 x.from_) ∧ V.cell? ⟨b, ob + q * 7 + 3, none⟩ = some (.int .i64 x.until_) ∧ V.cell? ⟨b, ob + q * 7 + 4, none⟩ = some (.bool x.done) ∧ V.cell? ⟨b, ob + q * 7 + 5, none⟩ = some (.int .i64 x.at_) ∧ V.cell? ⟨b, ob + q * 7 + 6, none⟩ = some (.int .i64 x.what) from fun V h => by
    have g := HJ.out.below h
    obtain ⟨b2, o2, hA, _, _, hc⟩ := flat_cells encWt_len g.rd q x hx (by omega)
    injection hA with hA
    injection hA with h1 h2
    subst h1 h2
    exact ⟨g.bs.six, hc 0 (by omega), hc 1 (by omega), hc 2 (by omega), hc 3 (by omega), hc 4 (by omega), hc 5 (by omega), hc 6 (by omega)⟩)
   have HOk := hide (show waitOk s each LR x = ((decide (untilS s x.until_ each = 9223372036854775807) || decide (LR < untilS s x.until_ each)) || (x.done && decide (x.at_ < untilS s x.until_ each))) from rfl)
   have HUx := hide (fun hg => HUn.out hg x.until_ hxu)
   obtain ⟨bd, hbe⟩ : ∃ bd, bd = untilS s x.until_ each := ⟨_, rfl⟩
   rw [← hbe] at HUx HOk
   clear hx hbe hxu
   obtain ⟨⟨y0, y1, y2, y3, y4, y5⟩, -⟩ := HC.out wj (Below.refl _ _)
   go_wp2_with fail
   refine (HGd.out _).mono ?_
   rintro e V1 ⟨rfl, hb2⟩
   have K1 := hide hb2
   clear hb2 y0 y1 y2 y3 y4 y5
   by_cases hc : gd = true ∧ 1 ≤ each
   case neg =>
    have HF := hide (HFin.out (HEnd.out (fun h => hc h.2)))
    have HF2 := hide (show (∃ A1 c1, Ending.returned (.slice OA out.length oc) = .returned (.slice A1 TT.length c1) ∧ Rd V1 NoBlk A1 (flat encWt TT)) from by
     obtain ⟨A1, c1, h1, h2⟩ := HF.out
     exact ⟨A1, c1, h1, h2.below K1.out⟩)
    cases gd with
    | false =>
     clear hc
     go_wp2_with fail
     go_ret
     exact ⟨HF2.out, (HJ.out.below K1.out).bel⟩
    | true =>
     have hc2 : ¬ 1 ≤ each := fun h => hc ⟨rfl, h⟩
     have b1 : decide ((0 : Int) < each) = false := by simp; omega
     clear hc hc2
     go_wp2_with fail
     go_ret
     exact ⟨HF2.out, (HJ.out.below K1.out).bel⟩
   case pos =>
    obtain ⟨hg1, hg2⟩ := hc
    have HUy := hide (HUx.out hg1)
    have HCn := hide (show 0 < q + 1 → gd = true ∧ 1 ≤ each from fun _ => ⟨hg1, hg2⟩)
    have b1 : decide ((0 : Int) < each) = true := by simp; omega
    subst hg1
    clear hg2 HUx HEnd HFin hcnd
    go_upto_region 5 with fail
    obtain ⟨V0, hV0⟩ : ∃ V9, V9 = V1.drew := ⟨_, rfl⟩
    have K0 := hide (show Below wj.heap.size wj V0 by rw [hV0]; exact below_drew' K1.out)
    refine wp_region_held (S := fun w' => (w'.cell? ⟨w.heap.size, 0, none⟩ = some (.int .i64 s.live) ∧ w'.cell? ⟨w.heap.size, 1, none⟩ = some (.int .i64 s.ring) ∧ w'.cell? ⟨w.heap.size, 2, none⟩ = some (.int .i64 s.win) ∧ w'.cell? ⟨w.heap.size, 3, none⟩ = some (.int .i64 s.out) ∧ w'.cell? ⟨w.heap.size, 4, none⟩ = some (.int .i64 s.quantum) ∧ w'.cell? ⟨w.heap.size, 5, none⟩ = some (.int .i64 s.visits)) ∧ w'.cell? ⟨b, ob + q * 7 + 3, none⟩ = some (.int .i64 x.until_)) (by kernel_rfl) ?_
    change wpAnyH _ _ _ _ _ _ _ _ V1.drew
    have hHeld : (fun w' => (w'.cell? ⟨w.heap.size, 0, none⟩ = some (.int .i64 s.live) ∧ w'.cell? ⟨w.heap.size, 1, none⟩ = some (.int .i64 s.ring) ∧ w'.cell? ⟨w.heap.size, 2, none⟩ = some (.int .i64 s.win) ∧ w'.cell? ⟨w.heap.size, 3, none⟩ = some (.int .i64 s.out) ∧ w'.cell? ⟨w.heap.size, 4, none⟩ = some (.int .i64 s.quantum) ∧ w'.cell? ⟨w.heap.size, 5, none⟩ = some (.int .i64 s.visits)) ∧ w'.cell? ⟨b, ob + q * 7 + 3, none⟩ = some (.int .i64 x.until_)) V1.drew := (by rw [← hV0]; exact (show _ ∧ _ from (by obtain ⟨h1, r0, r1, r2, r3, r4, r5, r6⟩ := HC.out _ K0.out; exact ⟨h1, r3⟩)))
    rw [← hV0] at hHeld ⊢
    simp only [List.size_toArray, List.length_cons, List.length_nil, Nat.zero_add, Nat.reduceAdd]
    clear hV0
    refine wpAnyH_take (i := 0) (v := ?_) rfl (by kernel_rfl) (by kernel_rfl) (by kernel_rfl) (fun _ _ _ h => h) (Or.inl ⟨by rfl, ?_⟩) (by assumption) ?_
    rotate_left
    ·(intro w9 hS9; (try simp only [List.getElem_toArray, List.getElem_cons_zero, List.getElem_cons_succ]); go_simp <;> rfl)
    try simp only [Act.put, List.setIfInBounds_toArray, List.set_cons_zero, List.set_cons_succ, List.getElem_toArray, List.getElem_cons_zero, List.getElem_cons_succ]
    refine wpAnyH_take (i := 1) (v := ?_) rfl (by kernel_rfl) (by kernel_rfl) (by kernel_rfl) (fun _ _ _ h => h) (Or.inl ⟨by rfl, ?_⟩) (by assumption) ?_
    rotate_left
    ·(intro w9 hS9; (try simp only [List.getElem_toArray, List.getElem_cons_zero, List.getElem_cons_succ]); go_simp <;> rfl)
    try simp only [Act.put, List.setIfInBounds_toArray, List.set_cons_zero, List.set_cons_succ, List.getElem_toArray, List.getElem_cons_zero, List.getElem_cons_succ]
    refine wpAnyH_take (i := 2) (v := ?_) rfl (by kernel_rfl) (by kernel_rfl) (by kernel_rfl) (fun _ _ _ h => h) (Or.inl ⟨by rfl, ?_⟩) (by assumption) ?_
    rotate_left
    ·(intro w9 hS9; (try simp only [List.getElem_toArray, List.getElem_cons_zero, List.getElem_cons_succ]); go_simp <;> rfl)
    try simp only [Act.put, List.setIfInBounds_toArray, List.set_cons_zero, List.set_cons_succ, List.getElem_toArray, List.getElem_cons_zero, List.getElem_cons_succ]
    refine wpAnyH_take (i := 3) (v := ?_) rfl (by kernel_rfl) (by kernel_rfl) (by kernel_rfl) (fun _ _ _ h => h) (Or.inl ⟨by rfl, ?_⟩) (by assumption) ?_
    rotate_left
    ·(intro w9 hS9; (try simp only [List.getElem_toArray, List.getElem_cons_zero, List.getElem_cons_succ]); go_simp <;> rfl)
    try simp only [Act.put, List.setIfInBounds_toArray, List.set_cons_zero, List.set_cons_succ, List.getElem_toArray, List.getElem_cons_zero, List.getElem_cons_succ]
    refine wpAnyH_take (i := 4) (v := ?_) rfl (by kernel_rfl) (by kernel_rfl) (by kernel_rfl) (fun _ _ _ h => h) (Or.inl ⟨by rfl, ?_⟩) (by assumption) ?_
    rotate_left
    ·(intro w9 hS9; (try simp only [List.getElem_toArray, List.getElem_cons_zero, List.getElem_cons_succ]); go_simp <;> rfl)
    try simp only [Act.put, List.setIfInBounds_toArray, List.set_cons_zero, List.set_cons_succ, List.getElem_toArray, List.getElem_cons_zero, List.getElem_cons_succ]
    refine wpAnyH_take (i := 5) (v := ?_) rfl (by kernel_rfl) (by kernel_rfl) (by kernel_rfl) (fun _ _ _ h => h) (Or.inl ⟨by rfl, ?_⟩) (by assumption) ?_
    rotate_left
    ·(intro w9 hS9; (try simp only [List.getElem_toArray, List.getElem_cons_zero, List.getElem_cons_succ]); go_simp <;> rfl)
    try simp only [Act.put, List.setIfInBounds_toArray, List.set_cons_zero, List.set_cons_succ, List.getElem_toArray, List.getElem_cons_zero, List.getElem_cons_succ]
    refine wpAnyH_take (i := 6) (v := ?_) rfl (by kernel_rfl) (by kernel_rfl) (by kernel_rfl) (fun _ _ _ h => h) (Or.inl ⟨by rfl, ?_⟩) (by assumption) ?_
    rotate_left
    ·(intro w9 hS9; (try simp only [List.getElem_toArray, List.getElem_cons_zero, List.getElem_cons_succ]); go_simp <;> rfl)
    try simp only [Act.put, List.setIfInBounds_toArray, List.set_cons_zero, List.set_cons_succ, List.getElem_toArray, List.getElem_cons_zero, List.getElem_cons_succ]
    refine wpAnyH_ready (rs := [7]) (by kernel_rfl) (by simp) ?_
    refine AllReadyH.cons rfl (fun K hK => ?_) AllReadyH.nil
    try simp only [List.getElem_toArray, List.getElem_cons_zero, List.getElem_cons_succ]
    try go_simp
    go_at_call 62
    refine (HUy.out _).mono ?_
    rintro e V2 ⟨rfl, hb5⟩
    have K2 := hide (K0.out.trans (hb5.mono K0.out.size))
    clear hb5
    refine hK.out _ _ (by obtain ⟨h1, r0, r1, r2, r3, r4, r5, r6⟩ := HC.out _ K2.out; exact ⟨h1, r3⟩) (fun hHeld => ?_)
    clear hK K
    try simp only [Act.put, List.setIfInBounds_toArray, List.set_cons_zero, List.set_cons_succ, List.getElem_toArray, List.getElem_cons_zero, List.getElem_cons_succ]
    refine wpAnyH_take (i := 8) (v := ?_) rfl (by kernel_rfl) (by kernel_rfl) (by kernel_rfl) (fun _ _ _ h => h) (Or.inl ⟨by rfl, ?_⟩) (by assumption) ?_
    rotate_left
    ·(intro w9 hS9; (try simp only [List.getElem_toArray, List.getElem_cons_zero, List.getElem_cons_succ]); go_simp <;> rfl)
    try simp only [Act.put, List.setIfInBounds_toArray, List.set_cons_zero, List.set_cons_succ, List.getElem_toArray, List.getElem_cons_zero, List.getElem_cons_succ]
    refine wpAnyH_done (by kernel_rfl) ?_ _
    try simp only [Exit.then]
    clear hHeld
    by_cases h0 : bd = 9223372036854775807
    case pos =>
     have b2 : (bd != 9223372036854775807) = false := by simp [h0]
     have HV := hide (show waitOk s each LR x = true by rw [HOk.out, show decide (bd = 9223372036854775807) = true by simp [h0]]; rfl)
     clear h0
     have HKn := hide (show keepL (waitOk s each LR) (L.take (q + 1)) = out by rw [HKs.out, HV.out, hout.out]; simp)
     go_wp2_with fail
     go_roundw
     case rel => exact ⟨q + 1, out, by omega, by go_num, HCn, HKn, hide (HJ.out.below K2.out)⟩
     case measure => simp [intOf]; omega
    case neg =>
     have b2 : (bd != 9223372036854775807) = true := by simpa using h0
     have e0 : decide (bd = 9223372036854775807) = false := by simpa using h0
     have e0' := hide e0
     clear h0 e0
     go_wp2_with fail
     refine (HLst.out _ (HJ.out.below K2.out).bel).mono ?_
     rintro e V3 ⟨rfl, hb6⟩
     have K3 := hide (K2.out.trans (hb6.mono K2.out.size))
     obtain ⟨-, r0, r1, r2, r3, r4, r5, r6⟩ := HC.out _ K3.out
     clear hb6
     by_cases h1 : bd ≤ LR
     case neg =>
      have b3 : decide (bd ≤ LR) = false := by simpa using h1
      have HV := hide (show waitOk s each LR x = true by rw [HOk.out, show decide (LR < bd) = true by simp; omega]; simp)
      clear h1 r0 r1 r2 r3 r4 r5 r6
      have HKn := hide (show keepL (waitOk s each LR) (L.take (q + 1)) = out by rw [HKs.out, HV.out, hout.out]; simp)
      go_wp2_with fail
      go_roundw
      case rel => exact ⟨q + 1, out, by omega, by go_num, HCn, HKn, hide (HJ.out.below K3.out)⟩
      case measure => simp [intOf]; omega
     case pos =>
      have b3 : decide (bd ≤ LR) = true := by simp [h1]
      have HOd := hide (show waitOk s each LR x = (x.done && decide (x.at_ < bd)) by rw [HOk.out, e0'.out, show decide (LR < bd) = false by simp; omega]; rfl)
      clear h1
      cases hd : x.done with
      | false =>
       have HV := hide (show waitOk s each LR x = false by rw [HOd.out, hd]; rfl)
       rw [hd] at r4
       go_upto_region 7 with fail
       rw [← hd] at r4
       clear hd
       have HKn := hide (show keepL (waitOk s each LR) (L.take (q + 1)) = out ++ [x] by rw [HKs.out, HV.out, hout.out]; simp)
       have HNew := hide (rd_blkN (M := NoBlk) (Blk.new V3 102 (encWt x).toArray) (fun h => h))
       have HJ2 := hide ((HJ.out.below K3.out).below (below_alloc V3 (.cells (encWt x).toArray 102)))
       have HSz9 := hide (show w.heap.size + 1 ≤ (V3.alloc (.cells (encWt x).toArray 102)).heap.size from HJ2.out.bs.lt)
       go_wp2_with (at_builtin; refine wpList_append_rd _ rfl (.tmp 64) (.tmp 69) _ rfl (w.heap.size + 1) 102 il _ 7 56 Tryz.underlying56 hil hlz0 hlz1 hlz2 rfl (by omega) _ out.length _ rfl HJ2.out.oo NoBlk (some ⟨V3.heap.size, 0, none⟩) 1 1 (encWt x) rfl HNew.out rfl (encWt_one _) (by simp only [maxLen]; omega) (by omega) HSz9.out ?_; intro v2 wb hown2 hgr how; have HJ3 := hide (HJ2.out.grow HMn.out hgr hown2 how); clear hown2 hgr how)
       go_roundw
       case rel => exact ⟨q + 1, out ++ [x], by omega, by go_num, HCn, HKn, HJ3⟩
       case measure => simp [intOf]; omega
      | true =>
       rw [hd] at r4
       by_cases h2 : bd ≤ x.at_
       case neg =>
        have b4 : decide (bd ≤ x.at_) = false := by simpa using h2
        have HV := hide (show waitOk s each LR x = true by rw [HOd.out, hd]; simp; omega)
        clear h2 hd
        have HKn := hide (show keepL (waitOk s each LR) (L.take (q + 1)) = out by rw [HKs.out, HV.out, hout.out]; simp)
        go_wp2_with fail
        go_roundw
        case rel => exact ⟨q + 1, out, by omega, by go_num, HCn, HKn, hide (HJ.out.below K3.out)⟩
        case measure => simp [intOf]; omega
       case pos =>
        have b4 : decide (bd ≤ x.at_) = true := by simp [h2]
        have HV := hide (show waitOk s each LR x = false by rw [HOd.out, hd]; simp; omega)
        clear h2
        go_upto_region 7 with fail
        rw [← hd] at r4
        clear hd
        have HKn := hide (show keepL (waitOk s each LR) (L.take (q + 1)) = out ++ [x] by rw [HKs.out, HV.out, hout.out]; simp)
        have HNew := hide (rd_blkN (M := NoBlk) (Blk.new V3 102 (encWt x).toArray) (fun h => h))
        have HJ2 := hide ((HJ.out.below K3.out).below (below_alloc V3 (.cells (encWt x).toArray 102)))
        have HSz9 := hide (show w.heap.size + 1 ≤ (V3.alloc (.cells (encWt x).toArray 102)).heap.size from HJ2.out.bs.lt)
        go_wp2_with (at_builtin; refine wpList_append_rd _ rfl (.tmp 64) (.tmp 69) _ rfl (w.heap.size + 1) 102 il _ 7 56 Tryz.underlying56 hil hlz0 hlz1 hlz2 rfl (by omega) _ out.length _ rfl HJ2.out.oo NoBlk (some ⟨V3.heap.size, 0, none⟩) 1 1 (encWt x) rfl HNew.out rfl (encWt_one _) (by simp only [maxLen]; omega) (by omega) HSz9.out ?_; intro v2 wb hown2 hgr how; have HJ3 := hide (HJ2.out.grow HMn.out hgr hown2 how); clear hown2 hgr how)
        go_roundw
        case rel => exact ⟨q + 1, out ++ [x], by omega, by go_num, HCn, HKn, HJ3⟩
        case measure => simp [intOf]; omega
end Go.Proofs.YtdmdohjdmnmabaaGreat
