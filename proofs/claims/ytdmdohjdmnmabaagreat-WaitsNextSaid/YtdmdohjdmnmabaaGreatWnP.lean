/- Parts of a chain of lemmas: Few13, FewP, WnP. Conditions: those of each theorem. -/
import Derived.Test.YtdmdohjdmnmabaaGreatPrg4
import Derived.Test.YtdmdohjdmnmabaaGreatPref
import Derived.Test.YtdmdohjdmnmabaaGreatAdd
import Derived.Test.YtdmdohjdmnmabaaGreatPut
import Derived.Deep.RegionHeld3
import Derived.Test.YtdmdohjdmnmabaaGreatPrg6
import Derived.Test.YtdmdohjdmnmabaaGreatNext
namespace Go.Proofs.YtdmdohjdmnmabaaGreat
open Go.RowKit
set_option linter.unusedVariables false
set_option linter.unusedSimpArgs false

def fewArm (a : ArmM) : ArmM := ⟨cutS a.pat 70, a.to⟩
def fewArms (l : List ArmM) (k : Nat) : List ArmM := (l.take k).map fewArm
def fewOp (o : OpM) : OpM := ⟨o.kind, cutS o.text 300, o.n, o.to, fewArms o.arms 10, o.onT, o.onE⟩
theorem fewArms_succ (l : List ArmM) (k : Nat) (h : k < l.length) : fewArms l (k + 1) = fewArms l k ++ [fewArm (armAt l k)] := by
  have e : armAt l k = l[k] := by simp [armAt, List.getD, h]
  unfold fewArms
  rw [List.take_succ_eq_append_getElem h, ← e]
  simp
theorem fewArms_len (l : List ArmM) (k : Nat) (h : k ≤ l.length) : (fewArms l k).length = k := by
  unfold fewArms
  rw [List.length_map, List.length_take]
  omega
theorem Tryz.infoArm : (Tryz.prog.info? 79).map (fun i => (i.zero, i.size, i.bytes)) = some (some (.agg #[.string ⟨#[]⟩, .int .i64 0]), 2, 24) := by kernel_rfl
theorem Tryz.infoOp : (Tryz.prog.info? 75).map (fun i => (i.zero, i.size, i.bytes)) = some (some (.agg #[.int .i64 0, .string ⟨#[]⟩, .int .i64 0, .int .i64 0, .slice none 0 0, .int .i64 0, .int .i64 0]), 7, 80) := by kernel_rfl
theorem Tryz.infoPrg : (Tryz.prog.info? 24).map (fun i => (i.zero, i.size, i.bytes)) = some (some (.agg #[.string ⟨#[]⟩, .int .i64 0, .int .i64 0, .slice none 0 0]), 4, 56) := by kernel_rfl
theorem encArm_one (a : ArmM) : ∀ u ∈ encArm a, u.oneCell' = true := by intro u hu; simp [encArm] at hu; rcases hu with rfl | rfl <;> rfl
theorem encOp_one (v : OpV) : ∀ u ∈ encOp v, u.oneCell' = true := by intro u hu; simp [encOp] at hu; rcases hu with rfl | rfl | rfl | rfl | rfl | rfl | rfl <;> rfl
/-- an op under way: its block, its arms -/
structure OpMid (w : World) (base g : Nat) (k : Int) (t : ByteArray) (n gt : Int) (va : Value) (x y : Int) (l : List ArmM) : Prop where
  blk : Blk w g 75 #[.int .i64 k, .string t, .int .i64 n, .int .i64 gt, va, .int .i64 x, .int .i64 y]
  own : w.ownsRow base 79 2 va l.length (flat encArm l)
section
variable {w w' : World} {base g : Nat} {k : Int} {t : ByteArray} {n gt : Int} {va : Value} {x y : Int} {l : List ArmM}
theorem OpMid.same (h : OpMid w base g k t n gt va x y l) (q : Only NoBlk w w') : OpMid w' base g k t n gt va x y l := ⟨h.blk.only q (fun h => h), own_only h.own q (fun _ _ h => h.elim)⟩
theorem OpMid.alloc (h : OpMid w base g k t n gt va x y l) (o : Obj) : OpMid (w.alloc o) base g k t n gt va x y l := h.same ((Only.refl _ w).alloc o)
theorem OpMid.drew (h : OpMid w base g k t n gt va x y l) : OpMid w.drew base g k t n gt va x y l := h.same (Only.refl _ w).drew
theorem OpMid.cell (h : OpMid w base g k t n gt va x y l) : w.cell? ⟨g, 4, none⟩ = some va := by rw [h.blk.cell]; rfl
theorem OpMid.growB (h : OpMid w base g k t n gt va x y l) (hg : w.grownBy w' va.ownBlock) : Blk w' g 75 #[.int .i64 k, .string t, .int .i64 n, .int .i64 gt, va, .int .i64 x, .int .i64 y] := Blk.grown h.blk h.own (by decide) hg
theorem OpMid.grow {v' : Value} {a : ArmM} {m : Nat} (h : OpMid w base g k t n gt va x y l) (hg : w.grownBy w' va.ownBlock) (ho : w'.ownsRow base 79 2 v' m (flat encArm l ++ encArm a)) (hm : m = l.length + 1) : OpMid (w'.setCell ⟨g, 4, none⟩ v') base g k t n gt v' x y (l ++ [a]) := by
  have hb := h.growB hg
  have q := (Only.refl (· = g) w').setCell (p := ⟨g, 4, none⟩) (Or.inl rfl) v'
  refine ⟨hb.set_ 4 v', own_only ?_ q ?_⟩
  · subst hm
    have e : flat encArm (l ++ [a]) = flat encArm l ++ encArm a := by simp [flat]
    simpa [e] using ho
  · intro g' cs hg hx
    subst hg
    exact Blk.ne_ hx hb (by decide) rfl
end
set_option maxRecDepth 100000 in
set_option maxHeartbeats 12800000 in
theorem fewop_c (k : Int) (t : ByteArray) (n gt : Int) (A : Option Addr) (l : List ArmM) (c : Nat) (x y : Int) (w : World) (hr : Rd w NoBlk A (flat encArm l)) (hn : l.length ≤ maxLen) :
    Calls Tryz.prog 39 #[.agg #[.int .i64 k, .string t, .int .i64 n, .int .i64 gt, .slice A l.length c, .int .i64 x, .int .i64 y]] w fun e w' =>
      (∃ B c2, e = .returned (.agg #[.int .i64 k, .string (cutS t 300), .int .i64 n, .int .i64 gt, .slice B (fewArms l 10).length c2, .int .i64 x, .int .i64 y]) ∧ Rd w' (· < w.heap.size) B (flat encArm (fewArms l 10))) ∧ Below w.heap.size w w' := by
  obtain ⟨ia, hia, hz0, hz1, hz2⟩ := info_parts Tryz.infoArm
  have hn' : l.length ≤ 9223372036854775807 := hn
  have HCut := hide (fun s m w hm => cutS_c s m w hm)
  have HR := hide (fun (w' : World) (h : Below w.heap.size w w') (i : Nat) (hi : i < l.length) => arm_cells (hr.below h) i hi)
  have HS := hide (fun k h => fewArms_succ l k h)
  have HL := hide (fun k h => fewArms_len l k h)
  have HTk := hide (show ∀ q, (q = l.length ∨ q = 10) → q ≤ l.length → q ≤ 10 → fewArms l 10 = fewArms l q from by
    intro q hq h1 h2
    rcases hq with rfl | rfl
    · unfold fewArms
      rw [List.take_of_length_le h2, List.take_of_length_le (Nat.le_refl _)]
    · rfl)
  obtain ⟨m, hm⟩ : ∃ m, m = l.length := ⟨_, rfl⟩
  rw [← hm] at hn' HR HS HL HTk ⊢
  clear hr hn hm
  go_enter Tryz.func39, Tryz.ntmps39
  go_wp2_with fail
  refine (HCut.out t 300 _ (by omega)).mono ?_
  rintro e wc ⟨rfl, rfl⟩
  go_wp2_with fail
  have HZ0 := hide (show Blk (((w.alloc (.cells #[.int .i64 k, .string (cutS t 300), .int .i64 n, .int .i64 gt, .slice (some ⟨w.heap.size + 1 + 1, 0, none⟩) 0 0, .int .i64 x, .int .i64 y] 75)).alloc (.cells #[.int .i64 0, .string ⟨#[]⟩, .int .i64 0, .int .i64 0, .slice none 0 0, .int .i64 0, .int .i64 0] 75)).alloc (.cells #[] 79)) (w.heap.size + 1) 75 #[.int .i64 0, .string ⟨#[]⟩, .int .i64 0, .int .i64 0, .slice none 0 0, .int .i64 0, .int .i64 0] from (Blk.new' (by simp)).alloc _)
  go_loopw [4] (fun i wr => ∃ (q : Nat) (va : Value), q ≤ m ∧ q ≤ 10 ∧ i = .int .i64 q ∧ Hid (OpMid wr (w.heap.size + 2) w.heap.size k (cutS t 300) n gt va x y (fewArms l q)) ∧ Hid (Blk wr (w.heap.size + 1) 75 #[.int .i64 0, .string ⟨#[]⟩, .int .i64 0, .int .i64 0, .slice none 0 0, .int .i64 0, .int .i64 0]) ∧ Hid (Below w.heap.size w wr)) (fun i _ => m - (intOf i).toNat)
  case atStart => exact ⟨0, _, Nat.zero_le _, Nat.zero_le _, rfl, hide ⟨((Blk.new _ _ _).alloc _).alloc _, by simpa [fewArms, flat] using own_empty' (w := (w.alloc (.cells #[.int .i64 k, .string (cutS t 300), .int .i64 n, .int .i64 gt, .slice (some ⟨w.heap.size + 1 + 1, 0, none⟩) 0 0, .int .i64 x, .int .i64 y] 75)).alloc (.cells #[.int .i64 0, .string ⟨#[]⟩, .int .i64 0, .int .i64 0, .slice none 0 0, .int .i64 0, .int .i64 0] 75)) (base := w.heap.size + 2) (g := w.heap.size + 2) (e := 79) (size := 2) (by simp) (by simp)⟩, HZ0, hide ((((below_alloc _ _).alloc (by simp) _).alloc (by simp; omega) _))⟩
  case round =>
    clear HZ0
    obtain ⟨q, va, hqm, hq10, rfl, HM, HZ, HB⟩ := hrel
    by_cases hlt : q < m ∧ q < 10
    case neg =>
      have HQ := hide (HTk.out q (by omega) (by omega) (by omega))
      obtain ⟨VA, vc, rfl, _⟩ := own_cap HM.out.own
      have hfl := HL.out q (by omega)
      obtain ⟨fn, hfn⟩ : ∃ fn, fn = (fewArms l q).length := ⟨_, rfl⟩
      have hrd := Rd.of_own (M := NoBlk) HM.out.own (fun _ h => h.elim)
      have hblk := HM.out.blk
      rw [← hfn] at hblk
      have Hfn := hide hfn
      have HRd := hide hrd
      have HBk := hide hblk
      obtain ⟨v0, v1, v2, v3, v4, v5, v6⟩ := hblk.seven
      obtain ⟨z0, z1, z2, z3, z4, z5, z6⟩ := HZ.out.seven
      have e0 := HZ.out.frozen 0
      have e1 := HZ.out.frozen 1
      have e2 := HZ.out.frozen 2
      have e3 := HZ.out.frozen 3
      have e4 := HZ.out.frozen 4
      have e5 := HZ.out.frozen 5
      have e6 := HZ.out.frozen 6
      have Hlt := hide hlt
      have HRm := hide (Rd.of_own (M := (· < w.heap.size + 2)) HM.out.own (fun k hk => hk))
      clear hrd hblk hfn hfl hlt
      go_wp2_with fail
      all_goals first
        | (exfalso; have := Hlt.out; omega)
        | (rw [put7]
           have r2 := HZ.out.put [.int .i64 k, .string (cutS t 300), .int .i64 n, .int .i64 gt, .slice VA fn vc, .int .i64 x, .int .i64 y] rfl
           have r3 := below_put [.int .i64 k, .string (cutS t 300), .int .i64 n, .int .i64 gt, .slice VA fn vc, .int .i64 x, .int .i64 y] 0 HB.out (show w.heap.size ≤ w.heap.size + 1 by omega)
           have r4 := (HRm.out.only (only_put [.int .i64 k, .string (cutS t 300), .int .i64 n, .int .i64 gt, .slice VA fn vc, .int .i64 x, .int .i64 y] 0 wr (w.heap.size + 1)) (fun k hk => by have : k = w.heap.size + 1 := hk; show k < w.heap.size + 2; omega)).mono (M' := (· < w.heap.size)) (fun k hk => by have : k < w.heap.size := hk; show k < w.heap.size + 2; omega)
           obtain ⟨p0, p1, p2, p3, p4, p5, p6⟩ := r2.seven
           refine bodyPost_ret (v := .agg #[.int .i64 k, .string (cutS t 300), .int .i64 n, .int .i64 gt, .slice VA fn vc, .int .i64 x, .int .i64 y]) (by simp [results, Tryz.results39, go_sem, p0, p1, p2, p3, p4, p5, p6]) rfl ?_
           refine ⟨⟨VA, vc, by rw [HQ.out, ← Hfn.out], by rw [HQ.out]; exact r4⟩, r3⟩)
    case pos =>
      obtain ⟨hl1, hl2⟩ := hlt
      obtain ⟨b, ob, rfl, hb, r0, r1⟩ := HR.out w (Below.refl _ _) q hl1
      have HSq := hide (HS.out q hl1)
      have hfl := HL.out q (by omega)
      obtain ⟨a, ha⟩ : ∃ a, a = armAt l q := ⟨_, rfl⟩
      rw [← ha] at r0 r1 HSq
      obtain ⟨ap, at_⟩ := a
      simp only at r0 r1
      have HL0 := hide r0
      have HL1 := hide r1
      replace r0 := bkeepL HB.out hb r0
      replace r1 := bkeepL HB.out hb r1
      obtain ⟨VA, vc, rfl, hvc⟩ := own_cap HM.out.own
      have d1 : decide ((q : Int) < (m : Int)) = true := by simp; omega
      have d2 : decide ((q : Int) < 10) = true := by simp; omega
      have j1 : (0 : Int) ≤ (q : Int) := by omega
      have j2 : (q : Int) < (m : Int) := by omega
      have w1 : IntKind.i64.wrap ((q : Int) + 1) = (q : Int) + 1 := IntWalk.i64_in _ (by omega)
      have HFl := hide hfl
      rw [hfl] at HM hvc
      clear ha hfl
      have hgl := HM.out.blk.lt
      have hcell := HM.out.cell
      go_upto_region 6 with fail
      obtain ⟨V0, hV0⟩ : ∃ V9, V9 = wr.drew := ⟨_, rfl⟩
      have HM0 := hide (HM.out.drew)
      have HB0 := hide (below_dr HB.out)
      have HZ0 := hide (HZ.out.drew)
      have q0 : wr.drew.cell? ⟨b, ob + q * 2, none⟩ = some (.string ap) := r0
      have q1 : wr.drew.cell? ⟨b, ob + q * 2 + 1, none⟩ = some (.int .i64 at_) := r1
      rw [← hV0] at HM0 HB0 HZ0 q0 q1
      clear r0 r1 hcell
      refine wp_region_pref (l1 := ?_) (l2 := ?_) 17 (fun w' => w'.cell? ⟨w.heap.size, 4, none⟩ = some (.slice VA q vc) ∧ w'.cell? ⟨b, ob + q * 2, none⟩ = some (.string ap) ∧ w'.cell? ⟨b, ob + q * 2 + 1, none⟩ = some (.int .i64 at_)) (by kernel_rfl) ?_ ?_ ?_ ?_ ?_ ?_ (fun hHeld => ?_)
      rotate_left 2
      · simp
      · kernel_rfl
      · kernel_rfl
      · simp only [List.take_succ_cons, List.take_zero]; rfl
      · simp only [List.drop_succ_cons, List.drop_zero]; rfl
      · rw [← hV0]; exact ⟨HM0.out.cell, q0, q1⟩
      rw [← hV0] at hHeld ⊢
      clear hV0
      refine wpAnyH_take (i := 0) (v := ?_) rfl (by kernel_rfl) (by kernel_rfl) (by kernel_rfl) (fun _ _ _ h => h) (Or.inl ⟨by rfl, ?_⟩) (by assumption) ?_
      rotate_left
      · (intro w9 hS9; try simp only [List.getElem_toArray, List.getElem_cons_zero, List.getElem_cons_succ]
         go_simp <;> rfl)
      try simp only [Act.put, List.setIfInBounds_toArray, List.set_cons_zero, List.set_cons_succ, List.getElem_toArray, List.getElem_cons_zero, List.getElem_cons_succ]
      refine wpAnyH_take (i := 1) (v := ?_) rfl (by kernel_rfl) (by kernel_rfl) (by kernel_rfl) (fun _ _ _ h => h) (Or.inl ⟨by rfl, ?_⟩) (by assumption) ?_
      rotate_left
      · (intro w9 hS9; try simp only [List.getElem_toArray, List.getElem_cons_zero, List.getElem_cons_succ]
         go_simp <;> rfl)
      try simp only [Act.put, List.setIfInBounds_toArray, List.set_cons_zero, List.set_cons_succ, List.getElem_toArray, List.getElem_cons_zero, List.getElem_cons_succ]
      refine wpAnyH_take (i := 2) (v := ?_) rfl (by kernel_rfl) (by kernel_rfl) (by kernel_rfl) (fun _ _ _ h => h) (Or.inl ⟨by rfl, ?_⟩) (by assumption) ?_
      rotate_left
      · (intro w9 hS9; try simp only [List.getElem_toArray, List.getElem_cons_zero, List.getElem_cons_succ]
         go_simp <;> rfl)
      try simp only [Act.put, List.setIfInBounds_toArray, List.set_cons_zero, List.set_cons_succ, List.getElem_toArray, List.getElem_cons_zero, List.getElem_cons_succ]
      refine wpAnyH_take (i := 3) (v := ?_) rfl (by kernel_rfl) (by kernel_rfl) (by kernel_rfl) (fun _ _ _ h => h) (Or.inl ⟨by rfl, ?_⟩) (by assumption) ?_
      rotate_left
      · (intro w9 hS9; try simp only [List.getElem_toArray, List.getElem_cons_zero, List.getElem_cons_succ]
         go_simp <;> rfl)
      try simp only [Act.put, List.setIfInBounds_toArray, List.set_cons_zero, List.set_cons_succ, List.getElem_toArray, List.getElem_cons_zero, List.getElem_cons_succ]
      refine wpAnyH_take (i := 4) (v := ?_) rfl (by kernel_rfl) (by kernel_rfl) (by kernel_rfl) (fun _ _ _ h => h) (Or.inl ⟨by rfl, ?_⟩) (by assumption) ?_
      rotate_left
      · (intro w9 hS9; try simp only [List.getElem_toArray, List.getElem_cons_zero, List.getElem_cons_succ]
         go_simp <;> rfl)
      try simp only [Act.put, List.setIfInBounds_toArray, List.set_cons_zero, List.set_cons_succ, List.getElem_toArray, List.getElem_cons_zero, List.getElem_cons_succ]
      refine wpAnyH_take (i := 5) (v := ?_) rfl (by kernel_rfl) (by kernel_rfl) (by kernel_rfl) (fun _ _ _ h => h) (Or.inl ⟨by rfl, ?_⟩) (by assumption) ?_
      rotate_left
      · (intro w9 hS9; try simp only [List.getElem_toArray, List.getElem_cons_zero, List.getElem_cons_succ]
         go_simp <;> rfl)
      try simp only [Act.put, List.setIfInBounds_toArray, List.set_cons_zero, List.set_cons_succ, List.getElem_toArray, List.getElem_cons_zero, List.getElem_cons_succ]
      refine wpAnyH_take (i := 6) (v := ?_) rfl (by kernel_rfl) (by kernel_rfl) (by kernel_rfl) (fun _ _ _ h => h) (Or.inl ⟨by rfl, ?_⟩) (by assumption) ?_
      rotate_left
      · (intro w9 hS9; try simp only [List.getElem_toArray, List.getElem_cons_zero, List.getElem_cons_succ]
         go_simp <;> rfl)
      try simp only [Act.put, List.setIfInBounds_toArray, List.set_cons_zero, List.set_cons_succ, List.getElem_toArray, List.getElem_cons_zero, List.getElem_cons_succ]
      refine wpAnyH_take (i := 8) (v := ?_) rfl (by kernel_rfl) (by kernel_rfl) (by kernel_rfl) (fun _ _ _ h => h) (Or.inl ⟨by rfl, ?_⟩) (by assumption) ?_
      rotate_left
      · (intro w9 hS9; try simp only [List.getElem_toArray, List.getElem_cons_zero, List.getElem_cons_succ]
         go_simp <;> rfl)
      try simp only [Act.put, List.setIfInBounds_toArray, List.set_cons_zero, List.set_cons_succ, List.getElem_toArray, List.getElem_cons_zero, List.getElem_cons_succ]
      refine wpAnyH_take (i := 9) (v := ?_) rfl (by kernel_rfl) (by kernel_rfl) (by kernel_rfl) (fun _ _ _ h => h) (Or.inl ⟨by rfl, ?_⟩) (by assumption) ?_
      rotate_left
      · (intro w9 hS9; try simp only [List.getElem_toArray, List.getElem_cons_zero, List.getElem_cons_succ]
         go_simp <;> rfl)
      try simp only [Act.put, List.setIfInBounds_toArray, List.set_cons_zero, List.set_cons_succ, List.getElem_toArray, List.getElem_cons_zero, List.getElem_cons_succ]
      refine wpAnyH_take (i := 10) (v := ?_) rfl (by kernel_rfl) (by kernel_rfl) (by kernel_rfl) (fun _ _ _ h => h) (Or.inl ⟨by rfl, ?_⟩) (by assumption) ?_
      rotate_left
      · (intro w9 hS9; try simp only [List.getElem_toArray, List.getElem_cons_zero, List.getElem_cons_succ]
         go_simp <;> rfl)
      try simp only [Act.put, List.setIfInBounds_toArray, List.set_cons_zero, List.set_cons_succ, List.getElem_toArray, List.getElem_cons_zero, List.getElem_cons_succ]
      refine wpAnyH_take (i := 11) (v := ?_) rfl (by kernel_rfl) (by kernel_rfl) (by kernel_rfl) (fun _ _ _ h => h) (Or.inl ⟨by rfl, ?_⟩) (by assumption) ?_
      rotate_left
      · (intro w9 hS9; try simp only [List.getElem_toArray, List.getElem_cons_zero, List.getElem_cons_succ]
         go_simp <;> rfl)
      try simp only [Act.put, List.setIfInBounds_toArray, List.set_cons_zero, List.set_cons_succ, List.getElem_toArray, List.getElem_cons_zero, List.getElem_cons_succ]
      refine wpAnyH_take (i := 12) (v := ?_) rfl (by kernel_rfl) (by kernel_rfl) (by kernel_rfl) (fun _ _ _ h => h) (Or.inl ⟨by rfl, ?_⟩) (by assumption) ?_
      rotate_left
      · (intro w9 hS9; try simp only [List.getElem_toArray, List.getElem_cons_zero, List.getElem_cons_succ]
         go_simp <;> rfl)
      try simp only [Act.put, List.setIfInBounds_toArray, List.set_cons_zero, List.set_cons_succ, List.getElem_toArray, List.getElem_cons_zero, List.getElem_cons_succ]
      refine wpAnyH_ready (rs := [7]) (by kernel_rfl) (by simp) ?_
      refine AllReadyH.cons rfl (fun K hK => ?_) AllReadyH.nil
      try simp only [List.getElem_toArray, List.getElem_cons_zero, List.getElem_cons_succ]
      try go_simp
      go_at_call 38
      refine (HCut.out ap 70 _ (by omega)).mono ?_
      rintro e V9 ⟨rfl, h9⟩
      obtain rfl := h9
      refine hK.out _ _ ⟨HM0.out.cell, q0, q1⟩ (fun hHeld => ?_)
      clear hK K
      try simp only [Act.put, List.setIfInBounds_toArray, List.set_cons_zero, List.set_cons_succ, List.getElem_toArray, List.getElem_cons_zero, List.getElem_cons_succ]
      refine wpAnyH_take (i := 13) (v := ?_) rfl (by kernel_rfl) (by kernel_rfl) (by kernel_rfl) (fun _ _ _ h => h) (Or.inl ⟨by rfl, ?_⟩) (by assumption) ?_
      rotate_left
      · (intro w9 hS9; try simp only [List.getElem_toArray, List.getElem_cons_zero, List.getElem_cons_succ]
         go_simp <;> rfl)
      try simp only [Act.put, List.setIfInBounds_toArray, List.set_cons_zero, List.set_cons_succ, List.getElem_toArray, List.getElem_cons_zero, List.getElem_cons_succ]
      refine wpAnyH_ready (rs := [14]) (by kernel_rfl) (by simp) ?_
      refine AllReadyH.cons rfl (fun K hK => ?_) AllReadyH.nil
      try simp only [List.getElem_toArray, List.getElem_cons_zero, List.getElem_cons_succ]
      try go_simp
      obtain ⟨V2, hV2⟩ : ∃ V9, V9 = V0.alloc (.cells (encArm (⟨cutS ap 70, at_⟩ : ArmM)).toArray 79) := ⟨_, rfl⟩
      have HM2 := hide (HM0.out.alloc (.cells (encArm (⟨cutS ap 70, at_⟩ : ArmM)).toArray 79))
      have HB2 := hide (HB0.out.alloc HB0.out.size (.cells (encArm (⟨cutS ap 70, at_⟩ : ArmM)).toArray 79))
      have HZ2 := hide (HZ0.out.alloc (.cells (encArm (⟨cutS ap 70, at_⟩ : ArmM)).toArray 79))
      have HI2 := hide (Blk.new V0 79 (encArm (⟨cutS ap 70, at_⟩ : ArmM)).toArray)
      have q0' := bkeep (below_alloc V0 (.cells (encArm (⟨cutS ap 70, at_⟩ : ArmM)).toArray 79)) q0
      have q1' := bkeep (below_alloc V0 (.cells (encArm (⟨cutS ap 70, at_⟩ : ArmM)).toArray 79)) q1
      simp only [encArm] at hV2
      rw [← hV2]
      rw [show V0.alloc (.cells (encArm (⟨cutS ap 70, at_⟩ : ArmM)).toArray 79) = V2 from hV2.symm] at HM2 HB2 HZ2 HI2 q0' q1'
      clear hV2 q0 q1
      refine hK.out _ _ ⟨HM2.out.cell, q0', q1'⟩ (fun hHeld => ?_)
      clear hK K
      try simp only [Act.put, List.setIfInBounds_toArray, List.set_cons_zero, List.set_cons_succ, List.getElem_toArray, List.getElem_cons_zero, List.getElem_cons_succ]
      refine wpAnyH_ready (rs := [15]) (by kernel_rfl) (by simp) ?_
      refine AllReadyH.cons rfl (fun K hK => ?_) AllReadyH.nil
      have hbs2 : w.heap.size + 2 ≤ V2.heap.size := by have := HZ2.out.lt; omega
      refine step_append_rd V2 (by rfl) (.tmp 24) (.tmp 37) _ (by rfl) (w.heap.size + 2) 79 ia _ 2 24 Tryz.underlying73 hia hz0 hz1 hz2 rfl (by omega) (.slice VA q vc) q (flat encArm (fewArms l q)) (by rfl) (by have := HM2.out.own; rw [HFl.out] at this; exact this) NoBlk (some ⟨V0.heap.size, 0, none⟩) 1 1 (encArm (⟨cutS ap 70, at_⟩ : ArmM)) (by rfl) (rd_blkN HI2.out (fun h => h)) rfl (encArm_one _) (by simp only [maxLen]; omega) (by omega) hbs2 ?_
      intro v9 V3 hown2 hgr _
      obtain ⟨A4, c4, rfl, hc4⟩ := own_cap hown2
      have HG3 := hide hgr
      have HOw3 := hide hown2
      have HBk3 := hide (HM2.out.growB hgr)
      have HB3 := hide (HB2.out.grown hgr (by omega) (fun k hk => by have := own_ge HM2.out.own k hk; omega))
      have HZ3 := hide (HZ2.out.grown HM2.out.own (by decide) hgr)
      have q0n := bkeepL HB3.out hb HL0.out
      have q1n := bkeepL HB3.out hb HL1.out
      clear hgr hown2 q0' q1'
      refine hK.out _ _ (by exact ⟨by rw [HBk3.out.cell]; rfl, q0n, q1n⟩) (fun hHeld => ?_)
      clear hK K
      try simp only [Act.put, List.setIfInBounds_toArray, List.set_cons_zero, List.set_cons_succ, List.getElem_toArray, List.getElem_cons_zero, List.getElem_cons_succ]
      refine wpAnyH_take (i := 16) (v := ?_) rfl (by kernel_rfl) (by kernel_rfl) (by kernel_rfl) (fun _ _ _ h => h) (Or.inl ⟨by rfl, ?_⟩) (by assumption) ?_
      rotate_left
      · (intro w9 hS9; try simp only [List.getElem_toArray, List.getElem_cons_zero, List.getElem_cons_succ]
         go_simp <;> rfl)
      try simp only [Act.put, List.setIfInBounds_toArray, List.set_cons_zero, List.set_cons_succ, List.getElem_toArray, List.getElem_cons_zero, List.getElem_cons_succ]
      refine wpAnyH_done (by kernel_rfl) ?_ _
      simp only [Exit.then]
      clear hHeld
      have f4 := HBk3.out.frozen 4
      have k4 : V3.cell? ⟨w.heap.size, 4, none⟩ = some (.slice VA q vc) := by rw [HBk3.out.cell]; rfl
      have HM4 := hide (HM2.out.grow (v' := .slice A4 (q + 1) c4) (a := ⟨cutS ap 70, at_⟩) (m := q + 1) HG3.out HOw3.out (by rw [HFl.out]))
      have HB4 := hide (HB3.out.setCell (Nat.le_refl _) (p := ⟨w.heap.size, 4, none⟩) (.slice A4 (q + 1) c4))
      have HZ4 := hide (HZ3.out.only ((Only.refl (· = w.heap.size) V3).setCell (p := ⟨w.heap.size, 4, none⟩) (Or.inl rfl) (.slice A4 (q + 1) c4)) (fun h => by omega))
      rw [show fewArms l q ++ [(⟨cutS ap 70, at_⟩ : ArmM)] = fewArms l (q + 1) from HSq.out.symm] at HM4
      clear q0n q1n
      go_wp2_with fail
      go_roundw
      · exact ⟨q + 1, _, by omega, by omega, by simp, HM4, HZ4, HB4⟩
      · simp only [intOf]; omega
end Go.Proofs.YtdmdohjdmnmabaaGreat
namespace Go.Proofs.YtdmdohjdmnmabaaGreat
open Go.RowKit
set_option linter.unusedVariables false
set_option linter.unusedSimpArgs false

theorem own_ltF {w : World} {base size n : Nat} {e : TypeId} {v : Value} {xs : List Value} (h : w.ownsRow base e size v n xs) : ∀ k, v.ownBlock = some k → k < w.heap.size := by
  intro k hk
  rcases h.2 with ⟨hv, hn⟩ | ⟨g, cap, cur, hv, hb, hh, _⟩
  · subst hv; simp [Value.ownBlock] at hk
  · subst hv
    simp [Value.ownBlock] at hk
    subst hk
    exact Blk.lt (t := e) (cs := cur) hh
/-- the blocks that stay apart from the inner rows: the elder ones, the row's own -/
def Mi (B : Nat) (va : Value) (k : Nat) : Prop := k < B ∨ va.ownBlock = some k
theorem inn_step {w w1 : World} {B : Nat} {va va' : Value} {A : Option Addr} {xs : List Value} (h : Rd w (Mi B va) A xs) (hg : w.grownBy w1 va.ownBlock) (ho : va'.ownBlock = va.ownBlock ∨ va'.ownBlock = some w.heap.size) : Rd w1 (Mi B va') A xs := by
  have q : Only (fun k => va.ownBlock = some k) w w1 := (Only.refl _ w).grown hg (fun k hk => Or.inl hk)
  rcases h with h | ⟨b, o, hA, hm, hb, hc⟩
  · exact Or.inl h
  · refine Or.inr ⟨b, o, hA, ?_, Nat.lt_of_lt_of_le hb q.size, fun j hj => (q.cell (p := ⟨b, o + j, none⟩) hb (fun hx => hm (Or.inr hx))).trans (hc j hj)⟩
    rintro (hx | hx)
    · exact hm (Or.inl hx)
    · rcases ho with ho | ho
      · exact hm (Or.inr (ho ▸ hx))
      · rw [ho] at hx; injection hx with hx; omega
/-- a script under way: its block, its ops, their arms -/
structure PrMid (w : World) (B : Nat) (s : ByteArray) (d j : Int) (va : Value) (L : List OpV) : Prop where
  blk : Blk w B 24 #[.string s, .int .i64 d, .int .i64 j, va]
  own : w.ownsRow (B + 2) 75 7 va L.length (flat encOp L)
  inn : ∀ v ∈ L, Rd w (Mi (B + 2) va) v.A (flat encArm v.o.arms)
section
variable {w w' : World} {B : Nat} {s : ByteArray} {d j : Int} {va : Value} {L : List OpV}
theorem PrMid.same (h : PrMid w B s d j va L) (q : Only NoBlk w w') : PrMid w' B s d j va L := ⟨h.blk.only q (fun h => h), own_only h.own q (fun _ _ h => h.elim), fun v hv => (h.inn v hv).only q (fun _ h => h.elim)⟩
theorem PrMid.alloc (h : PrMid w B s d j va L) (o : Obj) : PrMid (w.alloc o) B s d j va L := h.same ((Only.refl _ w).alloc o)
theorem PrMid.drew (h : PrMid w B s d j va L) : PrMid w.drew B s d j va L := h.same (Only.refl _ w).drew
theorem PrMid.cell (h : PrMid w B s d j va L) : w.cell? ⟨B, 3, none⟩ = some va := by rw [h.blk.cell]; rfl
theorem PrMid.growB (h : PrMid w B s d j va L) (hg : w.grownBy w' va.ownBlock) : Blk w' B 24 #[.string s, .int .i64 d, .int .i64 j, va] := Blk.grown h.blk h.own (by decide) hg
theorem PrMid.grow {v' : Value} {v : OpV} {m : Nat} (h : PrMid w B s d j va L) (hv : Rd w (Mi (B + 2) va) v.A (flat encArm v.o.arms)) (hg : w.grownBy w' va.ownBlock) (ho : w'.ownsRow (B + 2) 75 7 v' m (flat encOp L ++ encOp v)) (hm : m = L.length + 1) (hw : v'.ownBlock = va.ownBlock ∨ v'.ownBlock = some w.heap.size) : PrMid (w'.setCell ⟨B, 3, none⟩ v') B s d j v' (L ++ [v]) := by
  have hb := h.growB hg
  have q := (Only.refl (· = B) w').setCell (p := ⟨B, 3, none⟩) (Or.inl rfl) v'
  refine ⟨hb.set_ 3 v', own_only ?_ q ?_, ?_⟩
  · subst hm
    have e : flat encOp (L ++ [v]) = flat encOp L ++ encOp v := by simp [flat]
    simpa [e] using ho
  · intro g' cs hg hx
    subst hg
    exact Blk.ne_ hx hb (by decide) rfl
  · intro u hu
    have h1 : Rd w (Mi (B + 2) va) u.A (flat encArm u.o.arms) := by
      rcases List.mem_append.1 hu with hu | hu
      · exact h.inn u hu
      · rw [List.mem_singleton.1 hu]; exact hv
    exact (inn_step h1 hg hw).only q (fun k hk => Or.inl (by have : k = B := hk; omega))
end
def fewOps (L : List OpV) (k : Nat) : List OpM := (L.take k).map (fun v => fewOp v.o)
theorem fewOps_succ (L : List OpV) (k : Nat) (h : k < L.length) : fewOps L (k + 1) = fewOps L k ++ [fewOp (opAt L k).o] := by
  have e : opAt L k = L[k] := by simp [opAt, List.getD, h]
  unfold fewOps
  rw [List.take_succ_eq_append_getElem h, ← e]
  simp
set_option maxRecDepth 100000 in
set_option maxHeartbeats 12800000 in
theorem few_c (s : ByteArray) (d j : Int) (A : Option Addr) (L : List OpV) (c N : Nat) (w : World) (hr : OpsRd w NoBlk A L) (hn : L.length ≤ maxLen) (hz : ∀ v ∈ L, OpSz v) (hN : N ≤ 1000) :
    Calls Tryz.prog 8 #[.agg #[.string s, .int .i64 d, .int .i64 j, .slice A L.length c], .int .i64 N] w fun e w' =>
      (∃ B L' c2, e = .returned (.agg #[.string (cutS s 20), .int .i64 d, .int .i64 j, .slice B L'.length c2]) ∧ L'.map (·.o) = fewOps L N ∧ OpsRd w' (· < w.heap.size) B L') ∧ Below w.heap.size w w' := by
  obtain ⟨ia, hia, hz0, hz1, hz2⟩ := info_parts Tryz.infoOp
  have hn' : L.length ≤ 9223372036854775807 := hn
  have HCut := hide (fun s m w hm => cutS_c s m w hm)
  have HOp := hide (fun k t n gt A l c x y w hr hn => fewop_c k t n gt A l c x y w hr hn)
  have HR := hide (fun (i : Nat) (hi : i < L.length) => op_cells hr.1 i hi)
  have HI := hide (fun (i : Nat) (hi : i < L.length) => hr.2 _ (opAt_mem hi))
  have HSz := hide (fun (i : Nat) (hi : i < L.length) => hz _ (opAt_mem hi))
  have HS := hide (fun k h => fewOps_succ L k h)
  have HTk := hide (show ∀ q, (q = L.length ∨ q = N) → q ≤ L.length → q ≤ N → fewOps L N = fewOps L q from by
    intro q hq h1 h2
    rcases hq with rfl | rfl
    · unfold fewOps
      rw [List.take_of_length_le h2, List.take_of_length_le (Nat.le_refl _)]
    · rfl)
  have HN0 := hide hn
  obtain ⟨m, hm⟩ : ∃ m, m = L.length := ⟨_, rfl⟩
  rw [← hm] at hn' HR HI HSz HS HTk HN0 ⊢
  clear hr hn hm hz
  go_enter Tryz.func8, Tryz.ntmps8
  go_wp2_with fail
  refine (HCut.out s 20 _ (by omega)).mono ?_
  rintro e wc ⟨rfl, rfl⟩
  go_wp2_with fail
  have HZ0 := hide (show Blk (((w.alloc (.cells #[.string (cutS s 20), .int .i64 d, .int .i64 j, .slice (some ⟨w.heap.size + 1 + 1, 0, none⟩) 0 0] 24)).alloc (.cells #[.string ⟨#[]⟩, .int .i64 0, .int .i64 0, .slice none 0 0] 24)).alloc (.cells #[] 75)) (w.heap.size + 1) 24 #[.string ⟨#[]⟩, .int .i64 0, .int .i64 0, .slice none 0 0] from (Blk.new' (by simp)).alloc _)
  go_loopw [6] (fun i wr => ∃ (q : Nat) (va : Value) (LL : List OpV), q ≤ m ∧ q ≤ N ∧ i = .int .i64 q ∧ Hid (LL.length = q) ∧ Hid (LL.map (·.o) = fewOps L q) ∧ Hid (PrMid wr w.heap.size (cutS s 20) d j va LL) ∧ Hid (Blk wr (w.heap.size + 1) 24 #[.string ⟨#[]⟩, .int .i64 0, .int .i64 0, .slice none 0 0]) ∧ Hid (Below w.heap.size w wr)) (fun i _ => m - (intOf i).toNat)
  case atStart => exact ⟨0, _, [], Nat.zero_le _, Nat.zero_le _, rfl, hide rfl, hide rfl, hide ⟨((Blk.new _ _ _).alloc _).alloc _, by simpa [flat] using own_empty' (w := (w.alloc (.cells #[.string (cutS s 20), .int .i64 d, .int .i64 j, .slice (some ⟨w.heap.size + 1 + 1, 0, none⟩) 0 0] 24)).alloc (.cells #[.string ⟨#[]⟩, .int .i64 0, .int .i64 0, .slice none 0 0] 24)) (base := w.heap.size + 2) (g := w.heap.size + 2) (e := 75) (size := 7) (by simp) (by simp), fun v hv => by cases hv⟩, HZ0, hide ((((below_alloc _ _).alloc (by simp) _).alloc (by simp; omega) _))⟩
  case round =>
    clear HZ0
    obtain ⟨q, va, LL, hqm, hqN, rfl, HLn, HLM, HM, HZ, HB⟩ := hrel
    by_cases hlt : q < m ∧ q < N
    case neg =>
      have HQ := hide (HTk.out q (by omega) (by omega) (by omega))
      obtain ⟨VA, vc, rfl, _⟩ := own_cap HM.out.own
      obtain ⟨fn, hfn⟩ : ∃ fn, fn = LL.length := ⟨_, rfl⟩
      have HRm := hide (Rd.of_own (M := (· < w.heap.size + 2)) HM.out.own (fun k hk => hk))
      have hblk := HM.out.blk
      rw [← hfn] at hblk
      have Hfn := hide hfn
      obtain ⟨⟨v0, v1, v2, v3⟩, _⟩ := hblk.four
      obtain ⟨⟨z0, z1, z2, z3⟩, e0, e1, e2, e3⟩ := HZ.out.four
      have Hlt := hide hlt
      clear hblk hfn hlt
      go_wp2_with fail
      all_goals first
        | (exfalso; have := Hlt.out; omega)
        | (rw [put4]
           have r2 := HZ.out.put [.string (cutS s 20), .int .i64 d, .int .i64 j, .slice VA fn vc] rfl
           have r3 := below_put [.string (cutS s 20), .int .i64 d, .int .i64 j, .slice VA fn vc] 0 HB.out (show w.heap.size ≤ w.heap.size + 1 by omega)
           have r4 := (HRm.out.only (only_put [.string (cutS s 20), .int .i64 d, .int .i64 j, .slice VA fn vc] 0 wr (w.heap.size + 1)) (fun k hk => by have : k = w.heap.size + 1 := hk; show k < w.heap.size + 2; omega)).mono (M' := (· < w.heap.size)) (fun k hk => by have : k < w.heap.size := hk; show k < w.heap.size + 2; omega)
           obtain ⟨⟨p0, p1, p2, p3⟩, _⟩ := r2.four
           refine bodyPost_ret (v := .agg #[.string (cutS s 20), .int .i64 d, .int .i64 j, .slice VA fn vc]) (by simp [results, Tryz.results8, go_sem, p0, p1, p2, p3]) rfl ?_
           refine ⟨⟨VA, LL, vc, by rw [← Hfn.out], by rw [HQ.out]; exact HLM.out, r4, fun v hv => ?_⟩, r3⟩
           exact ((HM.out.inn v hv).only (only_put [.string (cutS s 20), .int .i64 d, .int .i64 j, .slice VA fn vc] 0 wr (w.heap.size + 1)) (fun k hk => Or.inl (by have : k = w.heap.size + 1 := hk; omega))).mono (M' := (· < w.heap.size)) (fun k hk => Or.inl (by have : k < w.heap.size := hk; omega)))
    case pos =>
      obtain ⟨hl1, hl2⟩ := hlt
      obtain ⟨b, ob, rfl, hb, r0, r1, r2, r3, r4, r5, r6⟩ := HR.out q hl1
      have HSq := hide (HS.out q hl1)
      have HIq := hide (HI.out q hl1)
      have HSzq := hide (HSz.out q hl1)
      obtain ⟨a, ha⟩ : ∃ a, a = opAt L q := ⟨_, rfl⟩
      rw [← ha] at r0 r1 r2 r3 r4 r5 r6 HSq HIq HSzq
      clear ha
      obtain ⟨⟨ok, ot, on_, og, oa, ox, oy⟩, oA, oc⟩ := a
      simp only at r0 r1 r2 r3 r4 r5 r6 HIq
      have HL0 := hide r0
      have HL1 := hide r1
      have HL2 := hide r2
      have HL3 := hide r3
      have HL4 := hide r4
      have HL5 := hide r5
      have HL6 := hide r6
      obtain ⟨VA, vc, rfl, hvc⟩ := own_cap HM.out.own
      have j1 : (0 : Int) ≤ (q : Int) := by omega
      have j2 : (q : Int) < (m : Int) := by omega
      have w1 : IntKind.i64.wrap ((q : Int) + 1) = (q : Int) + 1 := IntWalk.i64_in _ (by omega)
      have hfl := HLn.out
      have HFl := hide hfl
      rw [hfl] at HM hvc
      clear hfl r0 r1 r2 r3 r4 r5 r6
      have hgl := HM.out.blk.lt
      have d1 : decide ((q : Int) < (m : Int)) = true := by simp; omega
      have d2 : decide ((q : Int) < (N : Int)) = true := by simp; omega
      have Hlt := hide (And.intro hl1 hl2)
      have HT := hide trivial
      go_upto_region 6 with fail
      obtain ⟨V0, hV0⟩ : ∃ V9, V9 = wr.drew := ⟨_, rfl⟩
      have HM0 := hide (HM.out.drew)
      have HB0 := hide (below_dr HB.out)
      have HZ0 := hide (HZ.out.drew)
      rw [← hV0] at HM0 HB0 HZ0
      refine wp_region_pref (l1 := ?_) (l2 := ?_) 10 (fun w' => w'.cell? ⟨w.heap.size, 3, none⟩ = some (.slice VA q vc) ∧ w'.cell? ⟨b, ob + q * 7, none⟩ = some (.int .i64 ok) ∧ w'.cell? ⟨b, ob + q * 7 + 1, none⟩ = some (.string ot) ∧ w'.cell? ⟨b, ob + q * 7 + 2, none⟩ = some (.int .i64 on_) ∧ w'.cell? ⟨b, ob + q * 7 + 3, none⟩ = some (.int .i64 og) ∧ w'.cell? ⟨b, ob + q * 7 + 4, none⟩ = some (.slice oA oa.length oc) ∧ w'.cell? ⟨b, ob + q * 7 + 5, none⟩ = some (.int .i64 ox) ∧ w'.cell? ⟨b, ob + q * 7 + 6, none⟩ = some (.int .i64 oy)) (by kernel_rfl) ?_ ?_ ?_ ?_ ?_ ?_ (fun hHeld => ?_)
      rotate_left 2
      · simp
      · kernel_rfl
      · kernel_rfl
      · simp only [List.take_succ_cons, List.take_zero]; rfl
      · simp only [List.drop_succ_cons, List.drop_zero]; rfl
      · rw [← hV0]; exact ⟨HM0.out.cell, bkeepL HB0.out hb HL0.out, bkeepL HB0.out hb HL1.out, bkeepL HB0.out hb HL2.out, bkeepL HB0.out hb HL3.out, bkeepL HB0.out hb HL4.out, bkeepL HB0.out hb HL5.out, bkeepL HB0.out hb HL6.out⟩
      rw [← hV0] at hHeld ⊢
      clear hV0
      refine wpAnyH_take (i := 0) (v := ?_) rfl (by kernel_rfl) (by kernel_rfl) (by kernel_rfl) (fun _ _ _ h => h) (Or.inl ⟨by rfl, ?_⟩) (by assumption) ?_
      rotate_left
      · (intro w9 hS9; try simp only [List.getElem_toArray, List.getElem_cons_zero, List.getElem_cons_succ]
         go_simp <;> rfl)
      try simp only [Act.put, List.setIfInBounds_toArray, List.set_cons_zero, List.set_cons_succ, List.getElem_toArray, List.getElem_cons_zero, List.getElem_cons_succ]
      refine wpAnyH_take (i := 1) (v := ?_) rfl (by kernel_rfl) (by kernel_rfl) (by kernel_rfl) (fun _ _ _ h => h) (Or.inl ⟨by rfl, ?_⟩) (by assumption) ?_
      rotate_left
      · (intro w9 hS9; try simp only [List.getElem_toArray, List.getElem_cons_zero, List.getElem_cons_succ]
         go_simp <;> rfl)
      try simp only [Act.put, List.setIfInBounds_toArray, List.set_cons_zero, List.set_cons_succ, List.getElem_toArray, List.getElem_cons_zero, List.getElem_cons_succ]
      refine wpAnyH_take (i := 2) (v := ?_) rfl (by kernel_rfl) (by kernel_rfl) (by kernel_rfl) (fun _ _ _ h => h) (Or.inl ⟨by rfl, ?_⟩) (by assumption) ?_
      rotate_left
      · (intro w9 hS9; try simp only [List.getElem_toArray, List.getElem_cons_zero, List.getElem_cons_succ]
         go_simp <;> rfl)
      try simp only [Act.put, List.setIfInBounds_toArray, List.set_cons_zero, List.set_cons_succ, List.getElem_toArray, List.getElem_cons_zero, List.getElem_cons_succ]
      refine wpAnyH_take (i := 3) (v := ?_) rfl (by kernel_rfl) (by kernel_rfl) (by kernel_rfl) (fun _ _ _ h => h) (Or.inl ⟨by rfl, ?_⟩) (by assumption) ?_
      rotate_left
      · (intro w9 hS9; try simp only [List.getElem_toArray, List.getElem_cons_zero, List.getElem_cons_succ]
         go_simp <;> rfl)
      try simp only [Act.put, List.setIfInBounds_toArray, List.set_cons_zero, List.set_cons_succ, List.getElem_toArray, List.getElem_cons_zero, List.getElem_cons_succ]
      refine wpAnyH_take (i := 4) (v := ?_) rfl (by kernel_rfl) (by kernel_rfl) (by kernel_rfl) (fun _ _ _ h => h) (Or.inl ⟨by rfl, ?_⟩) (by assumption) ?_
      rotate_left
      · (intro w9 hS9; try simp only [List.getElem_toArray, List.getElem_cons_zero, List.getElem_cons_succ]
         go_simp <;> rfl)
      try simp only [Act.put, List.setIfInBounds_toArray, List.set_cons_zero, List.set_cons_succ, List.getElem_toArray, List.getElem_cons_zero, List.getElem_cons_succ]
      refine wpAnyH_take (i := 5) (v := ?_) rfl (by kernel_rfl) (by kernel_rfl) (by kernel_rfl) (fun _ _ _ h => h) (Or.inl ⟨by rfl, ?_⟩) (by assumption) ?_
      rotate_left
      · (intro w9 hS9; try simp only [List.getElem_toArray, List.getElem_cons_zero, List.getElem_cons_succ]
         go_simp <;> rfl)
      try simp only [Act.put, List.setIfInBounds_toArray, List.set_cons_zero, List.set_cons_succ, List.getElem_toArray, List.getElem_cons_zero, List.getElem_cons_succ]
      refine wpAnyH_ready (rs := [6]) (by kernel_rfl) (by simp) ?_
      refine AllReadyH.cons rfl (fun K hK => ?_) AllReadyH.nil
      try simp only [List.getElem_toArray, List.getElem_cons_zero, List.getElem_cons_succ]
      try go_simp
      go_at_call 39
      refine (HOp.out ok ot on_ og oA oa oc ox oy _ (HIq.out.below HB0.out) HSzq.out.2.1).mono ?_
      rintro e V1 ⟨⟨B9, c9, rfl, hrd9⟩, hb9⟩
      have HM1 := hide (HM0.out.same (Only.of_below hb9 _))
      have HB1 := hide (HB0.out.trans (hb9.mono HB0.out.size))
      have HZ1 := hide (HZ0.out.below hb9)
      have Hv9 := hide (hrd9.mono (M' := Mi (w.heap.size + 2) (.slice VA q vc)) (fun k hk => by
        have hz9 := HZ0.out.lt
        rcases hk with hk | hk
        · show k < V0.heap.size; omega
        · exact own_ltF HM0.out.own k hk))
      clear hrd9 hb9
      refine hK.out _ _ ⟨HM1.out.cell, bkeepL HB1.out hb HL0.out, bkeepL HB1.out hb HL1.out, bkeepL HB1.out hb HL2.out, bkeepL HB1.out hb HL3.out, bkeepL HB1.out hb HL4.out, bkeepL HB1.out hb HL5.out, bkeepL HB1.out hb HL6.out⟩ (fun hHeld => ?_)
      clear hK K
      try simp only [Act.put, List.setIfInBounds_toArray, List.set_cons_zero, List.set_cons_succ, List.getElem_toArray, List.getElem_cons_zero, List.getElem_cons_succ]
      obtain ⟨v9, hv9⟩ : ∃ v9 : OpV, v9 = ⟨fewOp ⟨ok, ot, on_, og, oa, ox, oy⟩, B9, c9⟩ := ⟨_, rfl⟩
      have Hv := hide hv9
      clear hv9
      refine wpAnyH_ready (rs := [7]) (by kernel_rfl) (by simp) ?_
      refine AllReadyH.cons rfl (fun K hK => ?_) AllReadyH.nil
      try simp only [List.getElem_toArray, List.getElem_cons_zero, List.getElem_cons_succ]
      try go_simp
      obtain ⟨V2, hV2⟩ : ∃ V9, V9 = V1.alloc (.cells (encOp (⟨fewOp ⟨ok, ot, on_, og, oa, ox, oy⟩, B9, c9⟩ : OpV)).toArray 75) := ⟨_, rfl⟩
      have HM2 := hide (HM1.out.alloc (.cells (encOp (⟨fewOp ⟨ok, ot, on_, og, oa, ox, oy⟩, B9, c9⟩ : OpV)).toArray 75))
      have HB2 := hide (HB1.out.alloc HB1.out.size (.cells (encOp (⟨fewOp ⟨ok, ot, on_, og, oa, ox, oy⟩, B9, c9⟩ : OpV)).toArray 75))
      have HZ2 := hide (HZ1.out.alloc (.cells (encOp (⟨fewOp ⟨ok, ot, on_, og, oa, ox, oy⟩, B9, c9⟩ : OpV)).toArray 75))
      have HI2 := hide (Blk.new V1 75 (encOp (⟨fewOp ⟨ok, ot, on_, og, oa, ox, oy⟩, B9, c9⟩ : OpV)).toArray)
      have Hv2 := hide (Hv9.out.alloc (.cells (encOp (⟨fewOp ⟨ok, ot, on_, og, oa, ox, oy⟩, B9, c9⟩ : OpV)).toArray 75))
      rw [← hV2] at HM2 HB2 HZ2 HI2 Hv2
      simp only [encOp, fewOp] at hV2
      rw [← hV2]
      clear hV2
      refine hK.out _ _ ⟨HM2.out.cell, bkeepL HB2.out hb HL0.out, bkeepL HB2.out hb HL1.out, bkeepL HB2.out hb HL2.out, bkeepL HB2.out hb HL3.out, bkeepL HB2.out hb HL4.out, bkeepL HB2.out hb HL5.out, bkeepL HB2.out hb HL6.out⟩ (fun hHeld => ?_)
      clear hK K
      try simp only [Act.put, List.setIfInBounds_toArray, List.set_cons_zero, List.set_cons_succ, List.getElem_toArray, List.getElem_cons_zero, List.getElem_cons_succ]
      refine wpAnyH_ready (rs := [8]) (by kernel_rfl) (by simp) ?_
      refine AllReadyH.cons rfl (fun K hK => ?_) AllReadyH.nil
      have hbs2 : w.heap.size + 2 ≤ V2.heap.size := by have := HZ2.out.lt; omega
      refine step_append_rd V2 (by rfl) (.tmp 27) (.tmp 33) _ (by rfl) (w.heap.size + 2) 75 ia _ 7 80 Tryz.underlying22 hia hz0 hz1 hz2 rfl (by omega) (.slice VA q vc) q (flat encOp LL) (by rfl) (by have := HM2.out.own; rw [HFl.out] at this; exact this) NoBlk (some ⟨V1.heap.size, 0, none⟩) 1 1 (encOp (⟨fewOp ⟨ok, ot, on_, og, oa, ox, oy⟩, B9, c9⟩ : OpV)) (by rfl) (rd_blkN HI2.out (fun h => h)) rfl (encOp_one _) (by simp only [maxLen]; omega) (by omega) hbs2 ?_
      intro v3 V3 hown2 hgr how
      obtain ⟨A4, c4, rfl, hc4⟩ := own_cap hown2
      have HG3 := hide hgr
      have HW3 := hide how
      have HOw3 := hide hown2
      have HBk3 := hide (HM2.out.growB hgr)
      have HB3 := hide (HB2.out.grown hgr (by omega) (fun k hk => by have := own_ge HM2.out.own k hk; omega))
      have HZ3 := hide (HZ2.out.grown HM2.out.own (by decide) hgr)
      clear hgr hown2 how
      refine hK.out _ _ ⟨(by rw [HBk3.out.cell]; rfl), bkeepL HB3.out hb HL0.out, bkeepL HB3.out hb HL1.out, bkeepL HB3.out hb HL2.out, bkeepL HB3.out hb HL3.out, bkeepL HB3.out hb HL4.out, bkeepL HB3.out hb HL5.out, bkeepL HB3.out hb HL6.out⟩ (fun hHeld => ?_)
      clear hK K
      try simp only [Act.put, List.setIfInBounds_toArray, List.set_cons_zero, List.set_cons_succ, List.getElem_toArray, List.getElem_cons_zero, List.getElem_cons_succ]
      refine wpAnyH_take (i := 9) (v := ?_) rfl (by kernel_rfl) (by kernel_rfl) (by kernel_rfl) (fun _ _ _ h => h) (Or.inl ⟨by rfl, ?_⟩) (by assumption) ?_
      rotate_left
      · (intro w9 hS9; try simp only [List.getElem_toArray, List.getElem_cons_zero, List.getElem_cons_succ]
         go_simp <;> rfl)
      try simp only [Act.put, List.setIfInBounds_toArray, List.set_cons_zero, List.set_cons_succ, List.getElem_toArray, List.getElem_cons_zero, List.getElem_cons_succ]
      refine wpAnyH_done (by kernel_rfl) ?_ _
      simp only [Exit.then]
      clear hHeld
      have f4 := HBk3.out.frozen 3
      have k4 : V3.cell? ⟨w.heap.size, 3, none⟩ = some (.slice VA q vc) := by rw [HBk3.out.cell]; rfl
      have HM4 := hide (HM2.out.grow (v' := .slice A4 (q + 1) c4) (v := (⟨fewOp ⟨ok, ot, on_, og, oa, ox, oy⟩, B9, c9⟩ : OpV)) (m := q + 1) Hv2.out HG3.out HOw3.out (by rw [HFl.out]) HW3.out)
      have HB4 := hide (HB3.out.setCell (Nat.le_refl _) (p := ⟨w.heap.size, 3, none⟩) (.slice A4 (q + 1) c4))
      have HZ4 := hide (HZ3.out.only ((Only.refl (· = w.heap.size) V3).setCell (p := ⟨w.heap.size, 3, none⟩) (Or.inl rfl) (.slice A4 (q + 1) c4)) (fun h => by omega))
      have HL4' := hide (show (LL ++ [(⟨fewOp ⟨ok, ot, on_, og, oa, ox, oy⟩, B9, c9⟩ : OpV)]).length = q + 1 by rw [List.length_append, HFl.out]; rfl)
      have HM4' := hide (show (LL ++ [(⟨fewOp ⟨ok, ot, on_, og, oa, ox, oy⟩, B9, c9⟩ : OpV)]).map (·.o) = fewOps L (q + 1) by rw [HSq.out, List.map_append, HLM.out]; rfl)
      go_wp2_with fail
      go_roundw
      · exact ⟨q + 1, _, _, by omega, by omega, by simp, HL4', HM4', HM4, HZ4, HB4⟩
      · simp only [intOf]; omega
end Go.Proofs.YtdmdohjdmnmabaaGreat
namespace Go.Proofs.YtdmdohjdmnmabaaGreat
set_option linter.unusedVariables false

theorem firstAt_all : ∀ (l : List Int) (i : Nat), (firstAt i l).2 = 0 → ∀ e ∈ l, e = 0 := by
  intro l
  induction l with
  | nil => intro i _ e he; cases he
  | cons a r ih =>
    intro i h e he
    unfold firstAt at h
    by_cases ha : a = 0
    · rw [if_neg (by omega)] at h
      rcases List.mem_cons.1 he with rfl | he
      · exact ha
      · exact ih _ h e he
    · rw [if_pos ha] at h
      exact absurd h ha
theorem firstE_all : ∀ (l : List Int), firstE l = 0 → ∀ e ∈ l, e = 0 := by
  intro l
  induction l with
  | nil => intro _ e he; cases he
  | cons a r ih =>
    intro h e he
    unfold firstE at h
    by_cases ha : a = 0
    · rw [if_neg (by omega)] at h
      rcases List.mem_cons.1 he with rfl | he
      · exact ha
      · exact ih h e he
    · rw [if_pos ha] at h
      exact absurd h ha
theorem good_op {p : ProgM} (h : goodM p = true) (o : OpM) (ho : o ∈ p.ops) : opE p.ops.length o = 0 := by
  unfold goodM at h
  rw [decide_eq_true_eq] at h
  unfold wrongM at h
  by_cases hh : headE p = 0
  · rw [if_neg (by omega)] at h
    exact firstAt_all _ _ h _ (List.mem_map.2 ⟨o, ho, rfl⟩)
  · rw [if_pos hh] at h
    exact absurd h hh
theorem leads_comes (n : Nat) (o : OpM) (x : Stp) (h : opE n o = 0) (h0 : 0 ≤ x.at_) (h1 : x.at_ < n) : leadsM o x = -1 ∨ comesB n (leadsM o x) = true := by
  unfold leadsM
  split
  · right
    unfold comesB
    simp; omega
  · split
    · rename_i hk
      right
      unfold opE at h
      rw [if_neg (by omega)] at h
      split at h
      · omega
      · rw [if_neg (by omega), if_neg (by omega), if_pos hk.1] at h
        split at h
        · assumption
        · omega
    · split
      · exact Or.inl rfl
      · rename_i hk
        have hk2 : o.kind = 2 := by omega
        unfold opE at h
        rw [if_neg (by omega)] at h
        split at h
        · omega
        · have h : expectE n o = 0 := by
            first
              | exact h
              | (rw [if_neg (by omega), if_pos hk2] at h; exact h)
              | (rw [if_pos hk2] at h; exact h)
              | (rw [if_neg (by omega)] at h; exact h)
          unfold expectE at h
          split at h
          · omega
          · split at h
            · omega
            · split at h
              · contradiction
              · rename_i hE
                have hE' : firstE (o.arms.map (armE n)) = 0 := Decidable.not_not.1 hE
                split at h
                · rename_i ht
                  rw [Bool.and_eq_true] at ht
                  unfold toB at ht
                  rw [Bool.or_eq_true, Bool.or_eq_true, decide_eq_true_eq, decide_eq_true_eq] at ht
                  split
                  · split
                    · rename_i hr
                      right
                      have hm : armAt o.arms x.arm.toNat ∈ o.arms := by
                        have hlt : x.arm.toNat < o.arms.length := by omega
                        have e : armAt o.arms x.arm.toNat = o.arms[x.arm.toNat] := by simp [armAt, List.getD, hlt]
                        rw [e]
                        exact List.getElem_mem hlt
                      have ha := firstE_all _ hE' _ (List.mem_map.2 ⟨_, hm, rfl⟩)
                      unfold armE at ha
                      split at ha
                      · omega
                      · split at ha
                        · contradiction
                        · split at ha
                          · assumption
                          · omega
                    · exact Or.inl rfl
                  · split
                    · exact ht.1
                    · split
                      · exact ht.2
                      · exact Or.inl rfl
                · omega
theorem next_comes (p : ProgM) (x : Stp) : NextM p x = -1 ∨ comesB p.ops.length (NextM p x) = true := by
  unfold NextM
  split
  · rename_i hg
    unfold nextM
    split
    · exact Or.inl rfl
    · rename_i hn
      have hlt : x.at_.toNat < p.ops.length := by omega
      refine leads_comes _ _ x (good_op hg _ ?_) (by omega) (by omega)
      have e : p.ops.getD x.at_.toNat opM0 = p.ops[x.at_.toNat] := by simp [List.getD, hlt]
      rw [e]
      exact List.getElem_mem hlt
  · exact Or.inl rfl
theorem cutS_twice (s : ByteArray) (m : Nat) : cutS (cutS s m) m = cutS s m := by
  have h : ¬ m < (cutS s m).size := by rw [cutS_size]; omega
  show (if m < (cutS s m).size then (cutS s m).extract 0 m else cutS s m) = cutS s m
  rw [if_neg h]
theorem fewArms_idem (l : List ArmM) (k : Nat) : fewArms (fewArms l k) k = fewArms l k := by
  unfold fewArms
  rw [← List.map_take, List.take_take, Nat.min_self, List.map_map]
  apply List.map_congr_left
  intro a _
  show fewArm (fewArm a) = fewArm a
  unfold fewArm
  simp only [cutS_twice]
theorem fewOp_idem (o : OpM) : fewOp (fewOp o) = fewOp o := by
  unfold fewOp
  simp only [cutS_twice, fewArms_idem]
theorem fewOps_idem {L L' : List OpV} {N : Nat} (h : L'.map (·.o) = fewOps L N) : fewOps L' N = L'.map (·.o) := by
  have e : ∀ X : List OpV, fewOps X N = ((X.map (·.o)).take N).map fewOp := by
    intro X
    unfold fewOps
    rw [← List.map_take, List.map_map]
    rfl
  rw [e L', h, e L, ← List.map_take, List.take_take, Nat.min_self, List.map_map]
  apply List.map_congr_left
  intro a _
  exact fewOp_idem a
theorem few_sz {L L' : List OpV} {N : Nat} (h : L'.map (·.o) = fewOps L N) (hz : ∀ v ∈ L, OpSz v) : ∀ v ∈ L', OpSz v := by
  intro v hv
  have hm : v.o ∈ fewOps L N := by rw [← h]; exact List.mem_map.2 ⟨v, hv, rfl⟩
  unfold fewOps at hm
  obtain ⟨u, hu, he⟩ := List.mem_map.1 hm
  have hu' := hz u (List.mem_of_mem_take hu)
  obtain ⟨h1, h2, h3⟩ := hu'
  unfold OpSz
  rw [← he]
  refine ⟨?_, ?_, ?_⟩
  · show (cutS u.o.text 300).size ≤ _
    rw [cutS_size]; omega
  · show (fewArms u.o.arms 10).length ≤ maxLen
    unfold fewArms
    rw [List.length_map, List.length_take]
    exact Nat.le_trans (Nat.min_le_right _ _) h2
  · intro a ha
    have ha' : a ∈ fewArms u.o.arms 10 := ha
    unfold fewArms at ha'
    obtain ⟨b, hb, rfl⟩ := List.mem_map.1 ha'
    show (cutS b.pat 70).size ≤ _
    rw [cutS_size]
    have := h3 b (List.mem_of_mem_take hb)
    omega
theorem few_len {L L' : List OpV} {N : Nat} (h : L'.map (·.o) = fewOps L N) : L'.length ≤ L.length := by
  have := congrArg List.length h
  unfold fewOps at this
  rw [List.length_map, List.length_map, List.length_take] at this
  omega
end Go.Proofs.YtdmdohjdmnmabaaGreat
