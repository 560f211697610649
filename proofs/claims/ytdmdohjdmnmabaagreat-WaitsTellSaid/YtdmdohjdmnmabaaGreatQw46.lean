/- Two rows that read as the same list are the same (law 35). Conditions: those of each theorem. -/
import Derived.Test.YtdmdohjdmnmabaaGreatQw45
import Derived.Test.YtdmdohjdmnmabaaGreatQw05
import Derived.Test.YtdmdohjdmnmabaaGreatQw22
import Derived.Deep.RegionHeld3
namespace Go.Proofs.YtdmdohjdmnmabaaGreat
open Go.RowKit
set_option linter.unusedVariables false
set_option linter.unusedSimpArgs false
theorem Blk.cellqWt {w : World} {g : Nat} {t : TypeId} {b0 b1 b2 b3 b4 b5 b6 : Value} (h : Blk w g t #[b0, b1, b2, b3, b4, b5, b6]) : w.cell? ⟨g, 0, none⟩ = some b0 ∧ w.cell? ⟨g, 1, none⟩ = some b1 ∧ w.cell? ⟨g, 2, none⟩ = some b2 ∧ w.cell? ⟨g, 3, none⟩ = some b3 ∧ w.cell? ⟨g, 4, none⟩ = some b4 ∧ w.cell? ⟨g, 5, none⟩ = some b5 ∧ w.cell? ⟨g, 6, none⟩ = some b6 := by
 refine ⟨?_, ?_, ?_, ?_, ?_, ?_, ?_⟩ <;> (rw [h.cell]; rfl)
set_option maxRecDepth 100000 in
set_option maxHeartbeats 6400000 in
theorem sameWt_c (M1 M2 : Nat → Prop) (A1 A2 : Option Addr) (c1 c2 : Nat) (L : List WtM) (w : World) (hr1 : Rd w M1 A1 (flat encWt L)) (hr2 : Rd w M2 A2 (flat encWt L)) (hn : L.length ≤ 10000000) :
 Calls Tryz.prog 23 #[.slice A1 L.length c1, .slice A2 L.length c2] w fun e w' => e = .returned (.bool true) ∧ Below w.heap.size w w' := by
 have Hc1 := hide (fun (w' : World) (hb : Below w.heap.size w w') (k : Nat) (x : WtM) (hx : L[k]? = some x) => flat_cells encWt_len (hr1.below hb) k x hx (by omega))
 have Hc2 := hide (fun (w' : World) (hb : Below w.heap.size w w') (k : Nat) (x : WtM) (hx : L[k]? = some x) => flat_cells encWt_len (hr2.below hb) k x hx (by omega))
 clear hr1 hr2
 obtain ⟨n, hnl⟩ : ∃ n, n = L.length := ⟨_, rfl⟩
 rw [← hnl]
 rw [← hnl] at hn
 have Hn := hide hnl
 clear hnl
 have dn : (n != n) = false := by simp
 have dn' : ((n : Int) != (n : Int)) = false := by simp
 go_enter Tryz.func23, Tryz.ntmps23
 go_wp2_with fail
 go_loopw [5] (fun i wr => ∃ k : Nat, k ≤ n ∧ i = .int .i64 k ∧ Hid (Below w.heap.size w wr)) (fun i _ => n - (intOf i).toNat)
 case atStart => exact ⟨0, Nat.zero_le _, rfl, hide (Below.refl _ _)⟩
 case round =>
  obtain ⟨k, hk, rfl, HB⟩ := hrel
  by_cases hlt : k < n
  ·obtain ⟨x, hx⟩ : ∃ x, L[k]? = some x := ⟨L[k]'(by rw [← Hn.out]; exact hlt), List.getElem?_eq_getElem _⟩
   obtain ⟨b1, ob1, rfl, _, hb1, _⟩ := Hc1.out wr HB.out k x hx
   obtain ⟨b2, ob2, rfl, _, hb2, _⟩ := Hc2.out wr HB.out k x hx
   have HC1 := hide (show ∀ w', Below w.heap.size w w' → w'.cell? ⟨b1, ob1 + k * 7, none⟩ = some (.int .i64 x.id) ∧ w'.cell? ⟨b1, ob1 + k * 7 + 1, none⟩ = some (.int .i64 x.op) ∧ w'.cell? ⟨b1, ob1 + k * 7 + 2, none⟩ = some (.int .i64 x.from_) ∧ w'.cell? ⟨b1, ob1 + k * 7 + 3, none⟩ = some (.int .i64 x.until_) ∧ w'.cell? ⟨b1, ob1 + k * 7 + 4, none⟩ = some (.bool x.done) ∧ w'.cell? ⟨b1, ob1 + k * 7 + 5, none⟩ = some (.int .i64 x.at_) ∧ w'.cell? ⟨b1, ob1 + k * 7 + 6, none⟩ = some (.int .i64 x.what) from fun w' h => by
    obtain ⟨b3, o3, hA, _, _, hc⟩ := Hc1.out w' h k x hx
    injection hA with hA
    injection hA with h1 h2
    subst h1 h2
    exact ⟨hc 0 (by omega), hc 1 (by omega), hc 2 (by omega), hc 3 (by omega), hc 4 (by omega), hc 5 (by omega), hc 6 (by omega)⟩)
   have HC2 := hide (show ∀ w', Below w.heap.size w w' → w'.cell? ⟨b2, ob2 + k * 7, none⟩ = some (.int .i64 x.id) ∧ w'.cell? ⟨b2, ob2 + k * 7 + 1, none⟩ = some (.int .i64 x.op) ∧ w'.cell? ⟨b2, ob2 + k * 7 + 2, none⟩ = some (.int .i64 x.from_) ∧ w'.cell? ⟨b2, ob2 + k * 7 + 3, none⟩ = some (.int .i64 x.until_) ∧ w'.cell? ⟨b2, ob2 + k * 7 + 4, none⟩ = some (.bool x.done) ∧ w'.cell? ⟨b2, ob2 + k * 7 + 5, none⟩ = some (.int .i64 x.at_) ∧ w'.cell? ⟨b2, ob2 + k * 7 + 6, none⟩ = some (.int .i64 x.what) from fun w' h => by
    obtain ⟨b3, o3, hA, _, _, hc⟩ := Hc2.out w' h k x hx
    injection hA with hA
    injection hA with h1 h2
    subst h1 h2
    exact ⟨hc 0 (by omega), hc 1 (by omega), hc 2 (by omega), hc 3 (by omega), hc 4 (by omega), hc 5 (by omega), hc 6 (by omega)⟩)
   have d1 : decide ((k : Int) < (n : Int)) = true := by simp; exact hlt
   have d2 : decide (k < n) = true := by simp; exact hlt
   have k1 : (0 : Int) ≤ (k : Int) := by omega
   have k2 : (k : Int) < (n : Int) := by omega
   have w1 : IntKind.i64.wrap ((k : Int) + 1) = (k : Int) + 1 := IntWalk.i64_in _ (by omega)
   clear hx Hc1 Hc2
   go_upto_region 6 with fail
   obtain ⟨V0, hV0⟩ : ∃ V9, V9 = wr.drew := ⟨_, rfl⟩
   have HB0 := hide (show Below w.heap.size w V0 by rw [hV0]; exact ⟨HB.out.os, HB.out.tape, HB.out.output, HB.out.size, HB.out.block⟩)
   refine wp_region_held (S := fun w' => (w'.cell? ⟨b1, ob1 + k * 7, none⟩ = some (.int .i64 x.id) ∧ w'.cell? ⟨b1, ob1 + k * 7 + 1, none⟩ = some (.int .i64 x.op) ∧ w'.cell? ⟨b1, ob1 + k * 7 + 2, none⟩ = some (.int .i64 x.from_) ∧ w'.cell? ⟨b1, ob1 + k * 7 + 3, none⟩ = some (.int .i64 x.until_) ∧ w'.cell? ⟨b1, ob1 + k * 7 + 4, none⟩ = some (.bool x.done) ∧ w'.cell? ⟨b1, ob1 + k * 7 + 5, none⟩ = some (.int .i64 x.at_) ∧ w'.cell? ⟨b1, ob1 + k * 7 + 6, none⟩ = some (.int .i64 x.what)) ∧ (w'.cell? ⟨b2, ob2 + k * 7, none⟩ = some (.int .i64 x.id) ∧ w'.cell? ⟨b2, ob2 + k * 7 + 1, none⟩ = some (.int .i64 x.op) ∧ w'.cell? ⟨b2, ob2 + k * 7 + 2, none⟩ = some (.int .i64 x.from_) ∧ w'.cell? ⟨b2, ob2 + k * 7 + 3, none⟩ = some (.int .i64 x.until_) ∧ w'.cell? ⟨b2, ob2 + k * 7 + 4, none⟩ = some (.bool x.done) ∧ w'.cell? ⟨b2, ob2 + k * 7 + 5, none⟩ = some (.int .i64 x.at_) ∧ w'.cell? ⟨b2, ob2 + k * 7 + 6, none⟩ = some (.int .i64 x.what))) (by kernel_rfl) ?_
   change wpAnyH _ _ _ _ _ _ _ _ wr.drew
   have hHeld : (fun w' => (w'.cell? ⟨b1, ob1 + k * 7, none⟩ = some (.int .i64 x.id) ∧ w'.cell? ⟨b1, ob1 + k * 7 + 1, none⟩ = some (.int .i64 x.op) ∧ w'.cell? ⟨b1, ob1 + k * 7 + 2, none⟩ = some (.int .i64 x.from_) ∧ w'.cell? ⟨b1, ob1 + k * 7 + 3, none⟩ = some (.int .i64 x.until_) ∧ w'.cell? ⟨b1, ob1 + k * 7 + 4, none⟩ = some (.bool x.done) ∧ w'.cell? ⟨b1, ob1 + k * 7 + 5, none⟩ = some (.int .i64 x.at_) ∧ w'.cell? ⟨b1, ob1 + k * 7 + 6, none⟩ = some (.int .i64 x.what)) ∧ (w'.cell? ⟨b2, ob2 + k * 7, none⟩ = some (.int .i64 x.id) ∧ w'.cell? ⟨b2, ob2 + k * 7 + 1, none⟩ = some (.int .i64 x.op) ∧ w'.cell? ⟨b2, ob2 + k * 7 + 2, none⟩ = some (.int .i64 x.from_) ∧ w'.cell? ⟨b2, ob2 + k * 7 + 3, none⟩ = some (.int .i64 x.until_) ∧ w'.cell? ⟨b2, ob2 + k * 7 + 4, none⟩ = some (.bool x.done) ∧ w'.cell? ⟨b2, ob2 + k * 7 + 5, none⟩ = some (.int .i64 x.at_) ∧ w'.cell? ⟨b2, ob2 + k * 7 + 6, none⟩ = some (.int .i64 x.what))) wr.drew := by rw [← hV0]; exact ⟨HC1.out _ HB0.out, HC2.out _ HB0.out⟩
   rw [← hV0] at hHeld ⊢
   simp only [List.size_toArray, List.length_cons, List.length_nil, Nat.zero_add, Nat.reduceAdd]
   clear hV0
   refine wpAnyH_take (i := 0) (v := ?_) rfl (by kernel_rfl) (by kernel_rfl) (by kernel_rfl) (fun _ _ _ h => h) (Or.inl ⟨by rfl, ?_⟩) (by assumption) ?_
   rotate_left
   ·(intro w9 hS9; try simp only [List.getElem_toArray, List.getElem_cons_zero, List.getElem_cons_succ]
     obtain ⟨hS1, hS2⟩ := hS9
     go_simp <;> rfl)
   try simp only [Act.put, List.setIfInBounds_toArray, List.set_cons_zero, List.set_cons_succ, List.getElem_toArray, List.getElem_cons_zero, List.getElem_cons_succ]
   refine wpAnyH_take (i := 1) (v := ?_) rfl (by kernel_rfl) (by kernel_rfl) (by kernel_rfl) (fun _ _ _ h => h) (Or.inl ⟨by rfl, ?_⟩) (by assumption) ?_
   rotate_left
   ·(intro w9 hS9; try simp only [List.getElem_toArray, List.getElem_cons_zero, List.getElem_cons_succ]
     obtain ⟨hS1, hS2⟩ := hS9
     go_simp <;> rfl)
   try simp only [Act.put, List.setIfInBounds_toArray, List.set_cons_zero, List.set_cons_succ, List.getElem_toArray, List.getElem_cons_zero, List.getElem_cons_succ]
   refine wpAnyH_take (i := 2) (v := ?_) rfl (by kernel_rfl) (by kernel_rfl) (by kernel_rfl) (fun _ _ _ h => h) (Or.inl ⟨by rfl, ?_⟩) (by assumption) ?_
   rotate_left
   ·(intro w9 hS9; try simp only [List.getElem_toArray, List.getElem_cons_zero, List.getElem_cons_succ]
     obtain ⟨hS1, hS2⟩ := hS9
     go_simp <;> rfl)
   try simp only [Act.put, List.setIfInBounds_toArray, List.set_cons_zero, List.set_cons_succ, List.getElem_toArray, List.getElem_cons_zero, List.getElem_cons_succ]
   refine wpAnyH_take (i := 3) (v := ?_) rfl (by kernel_rfl) (by kernel_rfl) (by kernel_rfl) (fun _ _ _ h => h) (Or.inl ⟨by rfl, ?_⟩) (by assumption) ?_
   rotate_left
   ·(intro w9 hS9; try simp only [List.getElem_toArray, List.getElem_cons_zero, List.getElem_cons_succ]
     obtain ⟨hS1, hS2⟩ := hS9
     go_simp <;> rfl)
   try simp only [Act.put, List.setIfInBounds_toArray, List.set_cons_zero, List.set_cons_succ, List.getElem_toArray, List.getElem_cons_zero, List.getElem_cons_succ]
   refine wpAnyH_take (i := 4) (v := ?_) rfl (by kernel_rfl) (by kernel_rfl) (by kernel_rfl) (fun _ _ _ h => h) (Or.inl ⟨by rfl, ?_⟩) (by assumption) ?_
   rotate_left
   ·(intro w9 hS9; try simp only [List.getElem_toArray, List.getElem_cons_zero, List.getElem_cons_succ]
     obtain ⟨hS1, hS2⟩ := hS9
     go_simp <;> rfl)
   try simp only [Act.put, List.setIfInBounds_toArray, List.set_cons_zero, List.set_cons_succ, List.getElem_toArray, List.getElem_cons_zero, List.getElem_cons_succ]
   refine wpAnyH_take (i := 5) (v := ?_) rfl (by kernel_rfl) (by kernel_rfl) (by kernel_rfl) (fun _ _ _ h => h) (Or.inl ⟨by rfl, ?_⟩) (by assumption) ?_
   rotate_left
   ·(intro w9 hS9; try simp only [List.getElem_toArray, List.getElem_cons_zero, List.getElem_cons_succ]
     obtain ⟨hS1, hS2⟩ := hS9
     go_simp <;> rfl)
   try simp only [Act.put, List.setIfInBounds_toArray, List.set_cons_zero, List.set_cons_succ, List.getElem_toArray, List.getElem_cons_zero, List.getElem_cons_succ]
   refine wpAnyH_take (i := 6) (v := ?_) rfl (by kernel_rfl) (by kernel_rfl) (by kernel_rfl) (fun _ _ _ h => h) (Or.inl ⟨by rfl, ?_⟩) (by assumption) ?_
   rotate_left
   ·(intro w9 hS9; try simp only [List.getElem_toArray, List.getElem_cons_zero, List.getElem_cons_succ]
     obtain ⟨hS1, hS2⟩ := hS9
     go_simp <;> rfl)
   try simp only [Act.put, List.setIfInBounds_toArray, List.set_cons_zero, List.set_cons_succ, List.getElem_toArray, List.getElem_cons_zero, List.getElem_cons_succ]
   refine wpAnyH_take (i := 7) (v := ?_) rfl (by kernel_rfl) (by kernel_rfl) (by kernel_rfl) (fun _ _ _ h => h) (Or.inl ⟨by rfl, ?_⟩) (by assumption) ?_
   rotate_left
   ·(intro w9 hS9; try simp only [List.getElem_toArray, List.getElem_cons_zero, List.getElem_cons_succ]
     obtain ⟨hS1, hS2⟩ := hS9
     go_simp <;> rfl)
   try simp only [Act.put, List.setIfInBounds_toArray, List.set_cons_zero, List.set_cons_succ, List.getElem_toArray, List.getElem_cons_zero, List.getElem_cons_succ]
   refine wpAnyH_ready (rs := [8, 9]) (by kernel_rfl) (by simp) ?_
   refine AllReadyH.cons rfl (fun K hK => ?_) (AllReadyH.cons rfl (fun K hK => ?_) AllReadyH.nil)
   ·skip
    try simp only [List.getElem_toArray, List.getElem_cons_zero, List.getElem_cons_succ]
    try go_simp
    obtain ⟨V1, hV1⟩ : ∃ V9, V9 = V0.alloc (.cells #[.int .i64 0, .int .i64 0, .int .i64 0, .int .i64 0, .bool false, .int .i64 0, .int .i64 0] 84) := ⟨_, rfl⟩
    obtain ⟨g6, hga⟩ : ∃ g, g = V0.heap.size := ⟨_, rfl⟩
    have HB1 := hide (show Below w.heap.size w V1 by rw [hV1]; exact HB0.out.alloc HB0.out.size _)
    have HA1 := hide (show Blk V1 g6 84 #[.int .i64 0, .int .i64 0, .int .i64 0, .int .i64 0, .bool false, .int .i64 0, .int .i64 0] by rw [hV1, hga]; exact Blk.new _ _ _)
    have HGa := hide (show w.heap.size ≤ g6 by rw [hga]; exact HB0.out.size)
    have HSa := hide (show V1.heap.size = g6 + 1 by rw [hV1, hga]; simp)
    rw [← hV1]
    rw [← hga]
    clear hV1 hga
    refine hK.out _ _ ⟨HC1.out _ HB1.out, HC2.out _ HB1.out⟩ (fun hHeld => ?_)
    clear hK K
    try simp only [Act.put, List.setIfInBounds_toArray, List.set_cons_zero, List.set_cons_succ, List.getElem_toArray, List.getElem_cons_zero, List.getElem_cons_succ]
    refine wpAnyH_ready (rs := [9]) (by kernel_rfl) (by simp) ?_
    refine AllReadyH.cons rfl (fun K hK => ?_) AllReadyH.nil
    try simp only [List.getElem_toArray, List.getElem_cons_zero, List.getElem_cons_succ]
    try go_simp
    obtain ⟨V2, hV2⟩ : ∃ V9, V9 = V1.alloc (.cells #[.int .i64 0, .int .i64 0, .int .i64 0, .int .i64 0, .bool false, .int .i64 0, .int .i64 0] 102) := ⟨_, rfl⟩
    obtain ⟨g7, hgb⟩ : ∃ g, g = V1.heap.size := ⟨_, rfl⟩
    have HB2 := hide (show Below w.heap.size w V2 by rw [hV2]; exact HB1.out.alloc HB1.out.size _)
    have HA2 := hide (show Blk V2 g6 84 #[.int .i64 0, .int .i64 0, .int .i64 0, .int .i64 0, .bool false, .int .i64 0, .int .i64 0] by rw [hV2]; exact HA1.out.alloc _)
    have HBb2 := hide (show Blk V2 g7 102 #[.int .i64 0, .int .i64 0, .int .i64 0, .int .i64 0, .bool false, .int .i64 0, .int .i64 0] by rw [hV2, hgb]; exact Blk.new _ _ _)
    have HGb := hide (show w.heap.size ≤ g7 by rw [hgb]; exact HB1.out.size)
    have hne : ¬ g6 = g7 := by have := HSa.out; omega
    have hne2 : ¬ g7 = g6 := fun h => hne h.symm
    rw [← hV2]
    rw [← hgb]
    clear hV2 hgb
    refine hK.out _ _ ⟨HC1.out _ HB2.out, HC2.out _ HB2.out⟩ (fun hHeld => ?_)
    clear hK K
    try simp only [Act.put, List.setIfInBounds_toArray, List.set_cons_zero, List.set_cons_succ, List.getElem_toArray, List.getElem_cons_zero, List.getElem_cons_succ]
    obtain ⟨c0, c1, c2, c3, c4, c5, c6⟩ := HA2.out.cellqWt
    have f0 := HA2.out.frozen 0
    have f1 := HA2.out.frozen 1
    have f2 := HA2.out.frozen 2
    have f3 := HA2.out.frozen 3
    have f4 := HA2.out.frozen 4
    have f5 := HA2.out.frozen 5
    have f6 := HA2.out.frozen 6
    refine wpAnyH_ready (rs := [10]) (by kernel_rfl) (by simp) ?_
    refine AllReadyH.cons rfl (fun K hK => ?_) AllReadyH.nil
    try simp only [List.getElem_toArray, List.getElem_cons_zero, List.getElem_cons_succ]
    try go_simp
    rw [put7]
    obtain ⟨V3, hV3⟩ : ∃ V9, V9 = putFrom V2 g6 0 [.int .i64 x.id, .int .i64 x.op, .int .i64 x.from_, .int .i64 x.until_, .bool x.done, .int .i64 x.at_, .int .i64 x.what] := ⟨_, rfl⟩
    have HB3 := hide (show Below w.heap.size w V3 by rw [hV3]; exact below_put _ 0 HB2.out HGa.out)
    have HX3 := hide (show Blk V3 g6 84 #[.int .i64 x.id, .int .i64 x.op, .int .i64 x.from_, .int .i64 x.until_, .bool x.done, .int .i64 x.at_, .int .i64 x.what] by rw [hV3]; exact HA2.out.put [.int .i64 x.id, .int .i64 x.op, .int .i64 x.from_, .int .i64 x.until_, .bool x.done, .int .i64 x.at_, .int .i64 x.what] rfl)
    have HY3 := hide (show Blk V3 g7 102 #[.int .i64 0, .int .i64 0, .int .i64 0, .int .i64 0, .bool false, .int .i64 0, .int .i64 0] by rw [hV3]; exact HBb2.out.only (only_put _ 0 V2 g6) (fun h => hne2 h))
    rw [← hV3]
    clear hV3 c0 f0 c1 f1 c2 f2 c3 f3 c4 f4 c5 f5 c6 f6
    refine hK.out _ _ ⟨HC1.out _ HB3.out, HC2.out _ HB3.out⟩ (fun hHeld => ?_)
    clear hK K
    try simp only [Act.put, List.setIfInBounds_toArray, List.set_cons_zero, List.set_cons_succ, List.getElem_toArray, List.getElem_cons_zero, List.getElem_cons_succ]
    obtain ⟨c0, c1, c2, c3, c4, c5, c6⟩ := HY3.out.cellqWt
    have f0 := HY3.out.frozen 0
    have f1 := HY3.out.frozen 1
    have f2 := HY3.out.frozen 2
    have f3 := HY3.out.frozen 3
    have f4 := HY3.out.frozen 4
    have f5 := HY3.out.frozen 5
    have f6 := HY3.out.frozen 6
    refine wpAnyH_ready (rs := [11]) (by kernel_rfl) (by simp) ?_
    refine AllReadyH.cons rfl (fun K hK => ?_) AllReadyH.nil
    try simp only [List.getElem_toArray, List.getElem_cons_zero, List.getElem_cons_succ]
    try go_simp
    rw [put7]
    obtain ⟨V4, hV4⟩ : ∃ V9, V9 = putFrom V3 g7 0 [.int .i64 x.id, .int .i64 x.op, .int .i64 x.from_, .int .i64 x.until_, .bool x.done, .int .i64 x.at_, .int .i64 x.what] := ⟨_, rfl⟩
    have HB4 := hide (show Below w.heap.size w V4 by rw [hV4]; exact below_put _ 0 HB3.out HGb.out)
    have HX4 := hide (show Blk V4 g6 84 #[.int .i64 x.id, .int .i64 x.op, .int .i64 x.from_, .int .i64 x.until_, .bool x.done, .int .i64 x.at_, .int .i64 x.what] by rw [hV4]; exact HX3.out.only (only_put _ 0 V3 g7) (fun h => hne h))
    have HY4 := hide (show Blk V4 g7 102 #[.int .i64 x.id, .int .i64 x.op, .int .i64 x.from_, .int .i64 x.until_, .bool x.done, .int .i64 x.at_, .int .i64 x.what] by rw [hV4]; exact HY3.out.put [.int .i64 x.id, .int .i64 x.op, .int .i64 x.from_, .int .i64 x.until_, .bool x.done, .int .i64 x.at_, .int .i64 x.what] rfl)
    rw [← hV4]
    clear hV4 c0 f0 c1 f1 c2 f2 c3 f3 c4 f4 c5 f5 c6 f6
    refine hK.out _ _ ⟨HC1.out _ HB4.out, HC2.out _ HB4.out⟩ (fun hHeld => ?_)
    clear hK K
    try simp only [Act.put, List.setIfInBounds_toArray, List.set_cons_zero, List.set_cons_succ, List.getElem_toArray, List.getElem_cons_zero, List.getElem_cons_succ]
    refine wpAnyH_done (by kernel_rfl) ?_ _
    try simp only [Exit.then]
    clear hHeld
    obtain ⟨y0, y1, y2, y3, y4, y5, y6⟩ := HX4.out.cellqWt
    obtain ⟨z0, z1, z2, z3, z4, z5, z6⟩ := HY4.out.cellqWt
    go_wp2_with fail
    go_roundw
    case rel => exact ⟨k + 1, by omega, by go_num, HB4⟩
    case measure => simp [intOf]; omega
   ·skip
    try simp only [List.getElem_toArray, List.getElem_cons_zero, List.getElem_cons_succ]
    try go_simp
    obtain ⟨V1, hV1⟩ : ∃ V9, V9 = V0.alloc (.cells #[.int .i64 0, .int .i64 0, .int .i64 0, .int .i64 0, .bool false, .int .i64 0, .int .i64 0] 102) := ⟨_, rfl⟩
    obtain ⟨g7, hga⟩ : ∃ g, g = V0.heap.size := ⟨_, rfl⟩
    have HB1 := hide (show Below w.heap.size w V1 by rw [hV1]; exact HB0.out.alloc HB0.out.size _)
    have HA1 := hide (show Blk V1 g7 102 #[.int .i64 0, .int .i64 0, .int .i64 0, .int .i64 0, .bool false, .int .i64 0, .int .i64 0] by rw [hV1, hga]; exact Blk.new _ _ _)
    have HGa := hide (show w.heap.size ≤ g7 by rw [hga]; exact HB0.out.size)
    have HSa := hide (show V1.heap.size = g7 + 1 by rw [hV1, hga]; simp)
    rw [← hV1]
    rw [← hga]
    clear hV1 hga
    refine hK.out _ _ ⟨HC1.out _ HB1.out, HC2.out _ HB1.out⟩ (fun hHeld => ?_)
    clear hK K
    try simp only [Act.put, List.setIfInBounds_toArray, List.set_cons_zero, List.set_cons_succ, List.getElem_toArray, List.getElem_cons_zero, List.getElem_cons_succ]
    refine wpAnyH_ready (rs := [8]) (by kernel_rfl) (by simp) ?_
    refine AllReadyH.cons rfl (fun K hK => ?_) AllReadyH.nil
    try simp only [List.getElem_toArray, List.getElem_cons_zero, List.getElem_cons_succ]
    try go_simp
    obtain ⟨V2, hV2⟩ : ∃ V9, V9 = V1.alloc (.cells #[.int .i64 0, .int .i64 0, .int .i64 0, .int .i64 0, .bool false, .int .i64 0, .int .i64 0] 84) := ⟨_, rfl⟩
    obtain ⟨g6, hgb⟩ : ∃ g, g = V1.heap.size := ⟨_, rfl⟩
    have HB2 := hide (show Below w.heap.size w V2 by rw [hV2]; exact HB1.out.alloc HB1.out.size _)
    have HA2 := hide (show Blk V2 g7 102 #[.int .i64 0, .int .i64 0, .int .i64 0, .int .i64 0, .bool false, .int .i64 0, .int .i64 0] by rw [hV2]; exact HA1.out.alloc _)
    have HBb2 := hide (show Blk V2 g6 84 #[.int .i64 0, .int .i64 0, .int .i64 0, .int .i64 0, .bool false, .int .i64 0, .int .i64 0] by rw [hV2, hgb]; exact Blk.new _ _ _)
    have HGb := hide (show w.heap.size ≤ g6 by rw [hgb]; exact HB1.out.size)
    have hne : ¬ g6 = g7 := by have := HSa.out; omega
    have hne2 : ¬ g7 = g6 := fun h => hne h.symm
    rw [← hV2]
    rw [← hgb]
    clear hV2 hgb
    refine hK.out _ _ ⟨HC1.out _ HB2.out, HC2.out _ HB2.out⟩ (fun hHeld => ?_)
    clear hK K
    try simp only [Act.put, List.setIfInBounds_toArray, List.set_cons_zero, List.set_cons_succ, List.getElem_toArray, List.getElem_cons_zero, List.getElem_cons_succ]
    obtain ⟨c0, c1, c2, c3, c4, c5, c6⟩ := HBb2.out.cellqWt
    have f0 := HBb2.out.frozen 0
    have f1 := HBb2.out.frozen 1
    have f2 := HBb2.out.frozen 2
    have f3 := HBb2.out.frozen 3
    have f4 := HBb2.out.frozen 4
    have f5 := HBb2.out.frozen 5
    have f6 := HBb2.out.frozen 6
    refine wpAnyH_ready (rs := [10]) (by kernel_rfl) (by simp) ?_
    refine AllReadyH.cons rfl (fun K hK => ?_) AllReadyH.nil
    try simp only [List.getElem_toArray, List.getElem_cons_zero, List.getElem_cons_succ]
    try go_simp
    rw [put7]
    obtain ⟨V3, hV3⟩ : ∃ V9, V9 = putFrom V2 g6 0 [.int .i64 x.id, .int .i64 x.op, .int .i64 x.from_, .int .i64 x.until_, .bool x.done, .int .i64 x.at_, .int .i64 x.what] := ⟨_, rfl⟩
    have HB3 := hide (show Below w.heap.size w V3 by rw [hV3]; exact below_put _ 0 HB2.out HGb.out)
    have HX3 := hide (show Blk V3 g6 84 #[.int .i64 x.id, .int .i64 x.op, .int .i64 x.from_, .int .i64 x.until_, .bool x.done, .int .i64 x.at_, .int .i64 x.what] by rw [hV3]; exact HBb2.out.put [.int .i64 x.id, .int .i64 x.op, .int .i64 x.from_, .int .i64 x.until_, .bool x.done, .int .i64 x.at_, .int .i64 x.what] rfl)
    have HY3 := hide (show Blk V3 g7 102 #[.int .i64 0, .int .i64 0, .int .i64 0, .int .i64 0, .bool false, .int .i64 0, .int .i64 0] by rw [hV3]; exact HA2.out.only (only_put _ 0 V2 g6) (fun h => hne2 h))
    rw [← hV3]
    clear hV3 c0 f0 c1 f1 c2 f2 c3 f3 c4 f4 c5 f5 c6 f6
    refine hK.out _ _ ⟨HC1.out _ HB3.out, HC2.out _ HB3.out⟩ (fun hHeld => ?_)
    clear hK K
    try simp only [Act.put, List.setIfInBounds_toArray, List.set_cons_zero, List.set_cons_succ, List.getElem_toArray, List.getElem_cons_zero, List.getElem_cons_succ]
    obtain ⟨c0, c1, c2, c3, c4, c5, c6⟩ := HY3.out.cellqWt
    have f0 := HY3.out.frozen 0
    have f1 := HY3.out.frozen 1
    have f2 := HY3.out.frozen 2
    have f3 := HY3.out.frozen 3
    have f4 := HY3.out.frozen 4
    have f5 := HY3.out.frozen 5
    have f6 := HY3.out.frozen 6
    refine wpAnyH_ready (rs := [11]) (by kernel_rfl) (by simp) ?_
    refine AllReadyH.cons rfl (fun K hK => ?_) AllReadyH.nil
    try simp only [List.getElem_toArray, List.getElem_cons_zero, List.getElem_cons_succ]
    try go_simp
    rw [put7]
    obtain ⟨V4, hV4⟩ : ∃ V9, V9 = putFrom V3 g7 0 [.int .i64 x.id, .int .i64 x.op, .int .i64 x.from_, .int .i64 x.until_, .bool x.done, .int .i64 x.at_, .int .i64 x.what] := ⟨_, rfl⟩
    have HB4 := hide (show Below w.heap.size w V4 by rw [hV4]; exact below_put _ 0 HB3.out HGa.out)
    have HX4 := hide (show Blk V4 g6 84 #[.int .i64 x.id, .int .i64 x.op, .int .i64 x.from_, .int .i64 x.until_, .bool x.done, .int .i64 x.at_, .int .i64 x.what] by rw [hV4]; exact HX3.out.only (only_put _ 0 V3 g7) (fun h => hne h))
    have HY4 := hide (show Blk V4 g7 102 #[.int .i64 x.id, .int .i64 x.op, .int .i64 x.from_, .int .i64 x.until_, .bool x.done, .int .i64 x.at_, .int .i64 x.what] by rw [hV4]; exact HY3.out.put [.int .i64 x.id, .int .i64 x.op, .int .i64 x.from_, .int .i64 x.until_, .bool x.done, .int .i64 x.at_, .int .i64 x.what] rfl)
    rw [← hV4]
    clear hV4 c0 f0 c1 f1 c2 f2 c3 f3 c4 f4 c5 f5 c6 f6
    refine hK.out _ _ ⟨HC1.out _ HB4.out, HC2.out _ HB4.out⟩ (fun hHeld => ?_)
    clear hK K
    try simp only [Act.put, List.setIfInBounds_toArray, List.set_cons_zero, List.set_cons_succ, List.getElem_toArray, List.getElem_cons_zero, List.getElem_cons_succ]
    refine wpAnyH_done (by kernel_rfl) ?_ _
    try simp only [Exit.then]
    clear hHeld
    obtain ⟨y0, y1, y2, y3, y4, y5, y6⟩ := HX4.out.cellqWt
    obtain ⟨z0, z1, z2, z3, z4, z5, z6⟩ := HY4.out.cellqWt
    go_wp2_with fail
    go_roundw
    case rel => exact ⟨k + 1, by omega, by go_num, HB4⟩
    case measure => simp [intOf]; omega
  ·have d1 : decide ((k : Int) < (n : Int)) = false := by simp; omega
   have d2 : decide (k < n) = false := by simp; omega
   go_wp2_with fail
   go_ret
   exact ⟨rfl, HB.out⟩
end Go.Proofs.YtdmdohjdmnmabaaGreat
