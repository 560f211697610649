/- Scripts in memory of their own, somewhat cut. Conditions: those of each theorem. -/
import Derived.Test.YtdmdohjdmnmabaaGreatDoorQh26
import Derived.Test.YtdmdohjdmnmabaaGreatDoorQh27
import Derived.Test.YtdmdohjdmnmabaaGreatDoorQh05
import Derived.Test.YtdmdohjdmnmabaaGreatDoorQh13
import Derived.Deep.RegionHeld3
namespace Go.Proofs.YtdmdohjdmnmabaaGreatDoor
open Go.RowKit
set_option linter.unusedVariables false
set_option linter.unusedSimpArgs false

def fewArm (a : ArmM) : ArmM := ⟨cutS a.pat 70, a.to⟩
def fewArms (l : List ArmM) (k : Nat) : List ArmM := (l.take k).map fewArm
def fewOp (o : OpM) : OpM := ⟨o.kind, cutS o.text 300, o.n, o.to, fewArms o.arms 10, o.onT, o.onE⟩
theorem fewArms_succ (l : List ArmM) (k : Nat) (h : k < l.length) : fewArms l (k + 1) = fewArms l k ++ [fewArm (armAt l k)] := by
 have e : armAt l k = l[k] := by simp [armAt, List.getD, h]
 unfold fewArms
 rw [List.take_succ_eq_append_getElem h, ← e]
 simp
theorem fewArms_len (l : List ArmM) (k : Nat) (h : k ≤ l.length) : (fewArms l k).length = k := by
 unfold fewArms
 rw [List.length_map, List.length_take]
 omega
theorem Tryz.infoArm : (Tryz.prog.info? 65).map (fun i => (i.zero, i.size, i.bytes)) = some (some (.agg #[.string ⟨#[]⟩, .int .i64 0]), 2, 24) := by kernel_rfl
theorem Tryz.infoOp : (Tryz.prog.info? 37).map (fun i => (i.zero, i.size, i.bytes)) = some (some (.agg #[.int .i64 0, .string ⟨#[]⟩, .int .i64 0, .int .i64 0, .slice none 0 0, .int .i64 0, .int .i64 0]), 7, 80) := by kernel_rfl
theorem Tryz.infoPrg : (Tryz.prog.info? 24).map (fun i => (i.zero, i.size, i.bytes)) = some (some (.agg #[.string ⟨#[]⟩, .int .i64 0, .int .i64 0, .slice none 0 0]), 4, 56) := by kernel_rfl
theorem encArm_one (a : ArmM) : ∀ u ∈ encArm a, u.oneCell' = true := by intro u hu; simp [encArm] at hu; rcases hu with rfl | rfl <;> rfl
theorem encOp_one (v : OpV) : ∀ u ∈ encOp v, u.oneCell' = true := by intro u hu; simp [encOp] at hu; rcases hu with rfl | rfl | rfl | rfl | rfl | rfl | rfl <;> rfl
/-- an op under way: its block, its arms -/
structure OpMid (w : World) (base g : Nat) (k : Int) (t : ByteArray) (n gt : Int) (va : Value) (x y : Int) (l : List ArmM) : Prop where
 blk : Blk w g 37 #[.int .i64 k, .string t, .int .i64 n, .int .i64 gt, va, .int .i64 x, .int .i64 y]
 own : w.ownsRow base 65 2 va l.length (flat encArm l)
section
variable {w w' : World} {base g : Nat} {k : Int} {t : ByteArray} {n gt : Int} {va : Value} {x y : Int} {l : List ArmM}
theorem OpMid.same (h : OpMid w base g k t n gt va x y l) (q : Only NoBlk w w') : OpMid w' base g k t n gt va x y l := ⟨h.blk.only q (fun h => h), own_only h.own q (fun _ _ h => h.elim)⟩
theorem OpMid.alloc (h : OpMid w base g k t n gt va x y l) (o : Obj) : OpMid (w.alloc o) base g k t n gt va x y l := h.same ((Only.refl _ w).alloc o)
theorem OpMid.drew (h : OpMid w base g k t n gt va x y l) : OpMid w.drew base g k t n gt va x y l := h.same (Only.refl _ w).drew
theorem OpMid.cell (h : OpMid w base g k t n gt va x y l) : w.cell? ⟨g, 4, none⟩ = some va := by rw [h.blk.cell]; rfl
theorem OpMid.growB (h : OpMid w base g k t n gt va x y l) (hg : w.grownBy w' va.ownBlock) : Blk w' g 37 #[.int .i64 k, .string t, .int .i64 n, .int .i64 gt, va, .int .i64 x, .int .i64 y] := Blk.grown h.blk h.own (by decide) hg
theorem OpMid.grow {v' : Value} {a : ArmM} {m : Nat} (h : OpMid w base g k t n gt va x y l) (hg : w.grownBy w' va.ownBlock) (ho : w'.ownsRow base 65 2 v' m (flat encArm l ++ encArm a)) (hm : m = l.length + 1) : OpMid (w'.setCell ⟨g, 4, none⟩ v') base g k t n gt v' x y (l ++ [a]) := by
 have hb := h.growB hg
 have q := (Only.refl (· = g) w').setCell (p := ⟨g, 4, none⟩) (Or.inl rfl) v'
 refine ⟨hb.set_ 4 v', own_only ?_ q ?_⟩
 ·subst hm
  have e : flat encArm (l ++ [a]) = flat encArm l ++ encArm a := by simp [flat]
  simpa [e] using ho
 ·intro g' cs hg hx
  subst hg
  exact Blk.ne_ hx hb (by decide) rfl
end
set_option maxRecDepth 100000 in
set_option maxHeartbeats 12800000 in
theorem fewop_c (k : Int) (t : ByteArray) (n gt : Int) (A : Option Addr) (l : List ArmM) (c : Nat) (x y : Int) (w : World) (hr : Rd w NoBlk A (flat encArm l)) (hn : l.length ≤ maxLen) :
 Calls Tryz.prog 23 #[.agg #[.int .i64 k, .string t, .int .i64 n, .int .i64 gt, .slice A l.length c, .int .i64 x, .int .i64 y]] w fun e w' =>
  (∃ B c2, e = .returned (.agg #[.int .i64 k, .string (cutS t 300), .int .i64 n, .int .i64 gt, .slice B (fewArms l 10).length c2, .int .i64 x, .int .i64 y]) ∧ Rd w' (· < w.heap.size) B (flat encArm (fewArms l 10))) ∧ Below w.heap.size w w' := by
 obtain ⟨ia, hia, hz0, hz1, hz2⟩ := info_parts Tryz.infoArm
 have hn' : l.length ≤ 9223372036854775807 := hn
 have HCut := hide (fun s m w hm => cutS_c s m w hm)
 have HR := hide (fun (w' : World) (h : Below w.heap.size w w') (i : Nat) (hi : i < l.length) => arm_cells (hr.below h) i hi)
 have HS := hide (fun k h => fewArms_succ l k h)
 have HL := hide (fun k h => fewArms_len l k h)
 have HTk := hide (show ∀ q, (q = l.length ∨ q = 10) → q ≤ l.length → q ≤ 10 → fewArms l 10 = fewArms l q from by
  intro q hq h1 h2
  rcases hq with rfl | rfl
  ·unfold fewArms
   rw [List.take_of_length_le h2, List.take_of_length_le (Nat.le_refl _)]
  ·rfl)
 obtain ⟨m, hm⟩ : ∃ m, m = l.length := ⟨_, rfl⟩
 rw [← hm] at hn' HR HS HL HTk ⊢
 clear hr hn hm
 go_enter Tryz.func23, Tryz.ntmps23
 go_wp2_with fail
 refine (HCut.out t 300 _ (by omega)).mono ?_
 rintro e wc ⟨rfl, rfl⟩
 go_wp2_with fail
 have HZ0 := hide (show Blk (((w.alloc (.cells #[.int .i64 k, .string (cutS t 300), .int .i64 n, .int .i64 gt, .slice (some ⟨w.heap.size + 1 + 1, 0, none⟩) 0 0, .int .i64 x, .int .i64 y] 37)).alloc (.cells #[.int .i64 0, .string ⟨#[]⟩, .int .i64 0, .int .i64 0, .slice none 0 0, .int .i64 0, .int .i64 0] 37)).alloc (.cells #[] 65)) (w.heap.size + 1) 37 #[.int .i64 0, .string ⟨#[]⟩, .int .i64 0, .int .i64 0, .slice none 0 0, .int .i64 0, .int .i64 0] from (Blk.new' (by simp)).alloc _)
 go_loopw [4] (fun i wr => ∃ (q : Nat) (va : Value), q ≤ m ∧ q ≤ 10 ∧ i = .int .i64 q ∧ Hid (OpMid wr (w.heap.size + 2) w.heap.size k (cutS t 300) n gt va x y (fewArms l q)) ∧ Hid (Blk wr (w.heap.size + 1) 37 #[.int .i64 0, .string ⟨#[]⟩, .int .i64 0, .int .i64 0, .slice none 0 0, .int .i64 0, .int .i64 0]) ∧ Hid (Below w.heap.size w wr)) (fun i _ => m - (intOf i).toNat)
 case atStart => exact ⟨0, _, Nat.zero_le _, Nat.zero_le _, rfl, hide ⟨((Blk.new _ _ _).alloc _).alloc _, by simpa [fewArms, flat] using own_empty' (w := (w.alloc (.cells #[.int .i64 k, .string (cutS t 300), .int .i64 n, .int .i64 gt, .slice (some ⟨w.heap.size + 1 + 1, 0, none⟩) 0 0, .int .i64 x, .int .i64 y] 37)).alloc (.cells #[.int .i64 0, .string ⟨#[]⟩, .int .i64 0, .int .i64 0, .slice none 0 0, .int .i64 0, .int .i64 0] 37)) (base := w.heap.size + 2) (g := w.heap.size + 2) (e := 65) (size := 2) (by simp) (by simp)⟩, HZ0, hide ((((below_alloc _ _).alloc (by simp) _).alloc (by simp; omega) _))⟩
 case round =>
  clear HZ0
  obtain ⟨q, va, hqm, hq10, rfl, HM, HZ, HB⟩ := hrel
  by_cases hlt : q < m ∧ q < 10
  case neg =>
   have HQ := hide (HTk.out q (by omega) (by omega) (by omega))
   obtain ⟨VA, vc, rfl, _⟩ := own_cap HM.out.own
   have hfl := HL.out q (by omega)
   obtain ⟨fn, hfn⟩ : ∃ fn, fn = (fewArms l q).length := ⟨_, rfl⟩
   have hrd := Rd.of_own (M := NoBlk) HM.out.own (fun _ h => h.elim)
   have hblk := HM.out.blk
   rw [← hfn] at hblk
   have Hfn := hide hfn
   have HRd := hide hrd
   have HBk := hide hblk
   obtain ⟨v0, v1, v2, v3, v4, v5, v6⟩ := hblk.seven
   obtain ⟨z0, z1, z2, z3, z4, z5, z6⟩ := HZ.out.seven
   have e0 := HZ.out.frozen 0
   have e1 := HZ.out.frozen 1
   have e2 := HZ.out.frozen 2
   have e3 := HZ.out.frozen 3
   have e4 := HZ.out.frozen 4
   have e5 := HZ.out.frozen 5
   have e6 := HZ.out.frozen 6
   have Hlt := hide hlt
   have HRm := hide (Rd.of_own (M := (· < w.heap.size + 2)) HM.out.own (fun k hk => hk))
   clear hrd hblk hfn hfl hlt
   go_wp2_with fail
   all_goals first
    | (exfalso; have := Hlt.out; omega)
    | (rw [put7]
       have r2 := HZ.out.put [.int .i64 k, .string (cutS t 300), .int .i64 n, .int .i64 gt, .slice VA fn vc, .int .i64 x, .int .i64 y] rfl
       have r3 := below_put [.int .i64 k, .string (cutS t 300), .int .i64 n, .int .i64 gt, .slice VA fn vc, .int .i64 x, .int .i64 y] 0 HB.out (show w.heap.size ≤ w.heap.size + 1 by omega)
       have r4 := (HRm.out.only (only_put [.int .i64 k, .string (cutS t 300), .int .i64 n, .int .i64 gt, .slice VA fn vc, .int .i64 x, .int .i64 y] 0 wr (w.heap.size + 1)) (fun k hk => by have : k = w.heap.size + 1 := hk; show k < w.heap.size + 2; omega)).mono (M' := (· < w.heap.size)) (fun k hk => by have : k < w.heap.size := hk; show k < w.heap.size + 2; omega)
       obtain ⟨p0, p1, p2, p3, p4, p5, p6⟩ := r2.seven
       refine bodyPost_ret (v := .agg #[.int .i64 k, .string (cutS t 300), .int .i64 n, .int .i64 gt, .slice VA fn vc, .int .i64 x, .int .i64 y]) (by simp [results, Tryz.results23, go_sem, p0, p1, p2, p3, p4, p5, p6]) rfl ?_
       refine ⟨⟨VA, vc, by rw [HQ.out, ← Hfn.out], by rw [HQ.out]; exact r4⟩, r3⟩)
  case pos =>
   obtain ⟨hl1, hl2⟩ := hlt
   obtain ⟨b, ob, rfl, hb, r0, r1⟩ := HR.out w (Below.refl _ _) q hl1
   have HSq := hide (HS.out q hl1)
   have hfl := HL.out q (by omega)
   obtain ⟨a, ha⟩ : ∃ a, a = armAt l q := ⟨_, rfl⟩
   rw [← ha] at r0 r1 HSq
   obtain ⟨ap, at_⟩ := a
   simp only at r0 r1
   have HL0 := hide r0
   have HL1 := hide r1
   replace r0 := bkeepL HB.out hb r0
   replace r1 := bkeepL HB.out hb r1
   obtain ⟨VA, vc, rfl, hvc⟩ := own_cap HM.out.own
   have d1 : decide ((q : Int) < (m : Int)) = true := by simp; omega
   have d2 : decide ((q : Int) < 10) = true := by simp; omega
   have j1 : (0 : Int) ≤ (q : Int) := by omega
   have j2 : (q : Int) < (m : Int) := by omega
   have w1 : IntKind.i64.wrap ((q : Int) + 1) = (q : Int) + 1 := IntWalk.i64_in _ (by omega)
   have HFl := hide hfl
   rw [hfl] at HM hvc
   clear ha hfl
   have hgl := HM.out.blk.lt
   have hcell := HM.out.cell
   go_upto_region 6 with fail
   obtain ⟨V0, hV0⟩ : ∃ V9, V9 = wr.drew := ⟨_, rfl⟩
   have HM0 := hide (HM.out.drew)
   have HB0 := hide (below_dr HB.out)
   have HZ0 := hide (HZ.out.drew)
   have q0 : wr.drew.cell? ⟨b, ob + q * 2, none⟩ = some (.string ap) := r0
   have q1 : wr.drew.cell? ⟨b, ob + q * 2 + 1, none⟩ = some (.int .i64 at_) := r1
   rw [← hV0] at HM0 HB0 HZ0 q0 q1
   clear r0 r1 hcell
   refine wp_region_pref (l1 := ?_) (l2 := ?_) 17 (fun w' => w'.cell? ⟨w.heap.size, 4, none⟩ = some (.slice VA q vc) ∧ w'.cell? ⟨b, ob + q * 2, none⟩ = some (.string ap) ∧ w'.cell? ⟨b, ob + q * 2 + 1, none⟩ = some (.int .i64 at_)) (by kernel_rfl) ?_ ?_ ?_ ?_ ?_ ?_ (fun hHeld => ?_)
   rotate_left 2
   ·simp
   ·kernel_rfl
   ·kernel_rfl
   ·simp only [List.take_succ_cons, List.take_zero]; rfl
   ·simp only [List.drop_succ_cons, List.drop_zero]; rfl
   ·rw [← hV0]; exact ⟨HM0.out.cell, q0, q1⟩
   rw [← hV0] at hHeld ⊢
   clear hV0
   refine wpAnyH_take (i := 0) (v := ?_) rfl (by kernel_rfl) (by kernel_rfl) (by kernel_rfl) (fun _ _ _ h => h) (Or.inl ⟨by rfl, ?_⟩) (by assumption) ?_
   rotate_left
   ·(intro w9 hS9; (try simp only [List.getElem_toArray, List.getElem_cons_zero, List.getElem_cons_succ]); go_simp <;> rfl)
   try simp only [Act.put, List.setIfInBounds_toArray, List.set_cons_zero, List.set_cons_succ, List.getElem_toArray, List.getElem_cons_zero, List.getElem_cons_succ]
   refine wpAnyH_take (i := 1) (v := ?_) rfl (by kernel_rfl) (by kernel_rfl) (by kernel_rfl) (fun _ _ _ h => h) (Or.inl ⟨by rfl, ?_⟩) (by assumption) ?_
   rotate_left
   ·(intro w9 hS9; (try simp only [List.getElem_toArray, List.getElem_cons_zero, List.getElem_cons_succ]); go_simp <;> rfl)
   try simp only [Act.put, List.setIfInBounds_toArray, List.set_cons_zero, List.set_cons_succ, List.getElem_toArray, List.getElem_cons_zero, List.getElem_cons_succ]
   refine wpAnyH_take (i := 2) (v := ?_) rfl (by kernel_rfl) (by kernel_rfl) (by kernel_rfl) (fun _ _ _ h => h) (Or.inl ⟨by rfl, ?_⟩) (by assumption) ?_
   rotate_left
   ·(intro w9 hS9; (try simp only [List.getElem_toArray, List.getElem_cons_zero, List.getElem_cons_succ]); go_simp <;> rfl)
   try simp only [Act.put, List.setIfInBounds_toArray, List.set_cons_zero, List.set_cons_succ, List.getElem_toArray, List.getElem_cons_zero, List.getElem_cons_succ]
   refine wpAnyH_take (i := 3) (v := ?_) rfl (by kernel_rfl) (by kernel_rfl) (by kernel_rfl) (fun _ _ _ h => h) (Or.inl ⟨by rfl, ?_⟩) (by assumption) ?_
   rotate_left
   ·(intro w9 hS9; (try simp only [List.getElem_toArray, List.getElem_cons_zero, List.getElem_cons_succ]); go_simp <;> rfl)
   try simp only [Act.put, List.setIfInBounds_toArray, List.set_cons_zero, List.set_cons_succ, List.getElem_toArray, List.getElem_cons_zero, List.getElem_cons_succ]
   refine wpAnyH_take (i := 4) (v := ?_) rfl (by kernel_rfl) (by kernel_rfl) (by kernel_rfl) (fun _ _ _ h => h) (Or.inl ⟨by rfl, ?_⟩) (by assumption) ?_
   rotate_left
   ·(intro w9 hS9; (try simp only [List.getElem_toArray, List.getElem_cons_zero, List.getElem_cons_succ]); go_simp <;> rfl)
   try simp only [Act.put, List.setIfInBounds_toArray, List.set_cons_zero, List.set_cons_succ, List.getElem_toArray, List.getElem_cons_zero, List.getElem_cons_succ]
   refine wpAnyH_take (i := 5) (v := ?_) rfl (by kernel_rfl) (by kernel_rfl) (by kernel_rfl) (fun _ _ _ h => h) (Or.inl ⟨by rfl, ?_⟩) (by assumption) ?_
   rotate_left
   ·(intro w9 hS9; (try simp only [List.getElem_toArray, List.getElem_cons_zero, List.getElem_cons_succ]); go_simp <;> rfl)
   try simp only [Act.put, List.setIfInBounds_toArray, List.set_cons_zero, List.set_cons_succ, List.getElem_toArray, List.getElem_cons_zero, List.getElem_cons_succ]
   refine wpAnyH_take (i := 6) (v := ?_) rfl (by kernel_rfl) (by kernel_rfl) (by kernel_rfl) (fun _ _ _ h => h) (Or.inl ⟨by rfl, ?_⟩) (by assumption) ?_
   rotate_left
   ·(intro w9 hS9; (try simp only [List.getElem_toArray, List.getElem_cons_zero, List.getElem_cons_succ]); go_simp <;> rfl)
   try simp only [Act.put, List.setIfInBounds_toArray, List.set_cons_zero, List.set_cons_succ, List.getElem_toArray, List.getElem_cons_zero, List.getElem_cons_succ]
   refine wpAnyH_take (i := 8) (v := ?_) rfl (by kernel_rfl) (by kernel_rfl) (by kernel_rfl) (fun _ _ _ h => h) (Or.inl ⟨by rfl, ?_⟩) (by assumption) ?_
   rotate_left
   ·(intro w9 hS9; (try simp only [List.getElem_toArray, List.getElem_cons_zero, List.getElem_cons_succ]); go_simp <;> rfl)
   try simp only [Act.put, List.setIfInBounds_toArray, List.set_cons_zero, List.set_cons_succ, List.getElem_toArray, List.getElem_cons_zero, List.getElem_cons_succ]
   refine wpAnyH_take (i := 9) (v := ?_) rfl (by kernel_rfl) (by kernel_rfl) (by kernel_rfl) (fun _ _ _ h => h) (Or.inl ⟨by rfl, ?_⟩) (by assumption) ?_
   rotate_left
   ·(intro w9 hS9; (try simp only [List.getElem_toArray, List.getElem_cons_zero, List.getElem_cons_succ]); go_simp <;> rfl)
   try simp only [Act.put, List.setIfInBounds_toArray, List.set_cons_zero, List.set_cons_succ, List.getElem_toArray, List.getElem_cons_zero, List.getElem_cons_succ]
   refine wpAnyH_take (i := 10) (v := ?_) rfl (by kernel_rfl) (by kernel_rfl) (by kernel_rfl) (fun _ _ _ h => h) (Or.inl ⟨by rfl, ?_⟩) (by assumption) ?_
   rotate_left
   ·(intro w9 hS9; (try simp only [List.getElem_toArray, List.getElem_cons_zero, List.getElem_cons_succ]); go_simp <;> rfl)
   try simp only [Act.put, List.setIfInBounds_toArray, List.set_cons_zero, List.set_cons_succ, List.getElem_toArray, List.getElem_cons_zero, List.getElem_cons_succ]
   refine wpAnyH_take (i := 11) (v := ?_) rfl (by kernel_rfl) (by kernel_rfl) (by kernel_rfl) (fun _ _ _ h => h) (Or.inl ⟨by rfl, ?_⟩) (by assumption) ?_
   rotate_left
   ·(intro w9 hS9; (try simp only [List.getElem_toArray, List.getElem_cons_zero, List.getElem_cons_succ]); go_simp <;> rfl)
   try simp only [Act.put, List.setIfInBounds_toArray, List.set_cons_zero, List.set_cons_succ, List.getElem_toArray, List.getElem_cons_zero, List.getElem_cons_succ]
   refine wpAnyH_take (i := 12) (v := ?_) rfl (by kernel_rfl) (by kernel_rfl) (by kernel_rfl) (fun _ _ _ h => h) (Or.inl ⟨by rfl, ?_⟩) (by assumption) ?_
   rotate_left
   ·(intro w9 hS9; (try simp only [List.getElem_toArray, List.getElem_cons_zero, List.getElem_cons_succ]); go_simp <;> rfl)
   try simp only [Act.put, List.setIfInBounds_toArray, List.set_cons_zero, List.set_cons_succ, List.getElem_toArray, List.getElem_cons_zero, List.getElem_cons_succ]
   refine wpAnyH_ready (rs := [7]) (by kernel_rfl) (by simp) ?_
   refine AllReadyH.cons rfl (fun K hK => ?_) AllReadyH.nil
   try simp only [List.getElem_toArray, List.getElem_cons_zero, List.getElem_cons_succ]
   try go_simp
   go_at_call 16
   refine (HCut.out ap 70 _ (by omega)).mono ?_
   rintro e V9 ⟨rfl, h9⟩
   obtain rfl := h9
   refine hK.out _ _ ⟨HM0.out.cell, q0, q1⟩ (fun hHeld => ?_)
   clear hK K
   try simp only [Act.put, List.setIfInBounds_toArray, List.set_cons_zero, List.set_cons_succ, List.getElem_toArray, List.getElem_cons_zero, List.getElem_cons_succ]
   refine wpAnyH_take (i := 13) (v := ?_) rfl (by kernel_rfl) (by kernel_rfl) (by kernel_rfl) (fun _ _ _ h => h) (Or.inl ⟨by rfl, ?_⟩) (by assumption) ?_
   rotate_left
   ·(intro w9 hS9; (try simp only [List.getElem_toArray, List.getElem_cons_zero, List.getElem_cons_succ]); go_simp <;> rfl)
   try simp only [Act.put, List.setIfInBounds_toArray, List.set_cons_zero, List.set_cons_succ, List.getElem_toArray, List.getElem_cons_zero, List.getElem_cons_succ]
   refine wpAnyH_ready (rs := [14]) (by kernel_rfl) (by simp) ?_
   refine AllReadyH.cons rfl (fun K hK => ?_) AllReadyH.nil
   try simp only [List.getElem_toArray, List.getElem_cons_zero, List.getElem_cons_succ]
   try go_simp
   obtain ⟨V2, hV2⟩ : ∃ V9, V9 = V0.alloc (.cells (encArm (⟨cutS ap 70, at_⟩ : ArmM)).toArray 65) := ⟨_, rfl⟩
   have HM2 := hide (HM0.out.alloc (.cells (encArm (⟨cutS ap 70, at_⟩ : ArmM)).toArray 65))
   have HB2 := hide (HB0.out.alloc HB0.out.size (.cells (encArm (⟨cutS ap 70, at_⟩ : ArmM)).toArray 65))
   have HZ2 := hide (HZ0.out.alloc (.cells (encArm (⟨cutS ap 70, at_⟩ : ArmM)).toArray 65))
   have HI2 := hide (Blk.new V0 65 (encArm (⟨cutS ap 70, at_⟩ : ArmM)).toArray)
   have q0' := bkeep (below_alloc V0 (.cells (encArm (⟨cutS ap 70, at_⟩ : ArmM)).toArray 65)) q0
   have q1' := bkeep (below_alloc V0 (.cells (encArm (⟨cutS ap 70, at_⟩ : ArmM)).toArray 65)) q1
   simp only [encArm] at hV2
   rw [← hV2]
   rw [show V0.alloc (.cells (encArm (⟨cutS ap 70, at_⟩ : ArmM)).toArray 65) = V2 from hV2.symm] at HM2 HB2 HZ2 HI2 q0' q1'
   clear hV2 q0 q1
   refine hK.out _ _ ⟨HM2.out.cell, q0', q1'⟩ (fun hHeld => ?_)
   clear hK K
   try simp only [Act.put, List.setIfInBounds_toArray, List.set_cons_zero, List.set_cons_succ, List.getElem_toArray, List.getElem_cons_zero, List.getElem_cons_succ]
   refine wpAnyH_ready (rs := [15]) (by kernel_rfl) (by simp) ?_
   refine AllReadyH.cons rfl (fun K hK => ?_) AllReadyH.nil
   have hbs2 : w.heap.size + 2 ≤ V2.heap.size := by have := HZ2.out.lt; omega
   refine step_append_rd V2 (by rfl) (.tmp 24) (.tmp 37) _ (by rfl) (w.heap.size + 2) 65 ia _ 2 24 Tryz.underlying35 hia hz0 hz1 hz2 rfl (by omega) (.slice VA q vc) q (flat encArm (fewArms l q)) (by rfl) (by have := HM2.out.own; rw [HFl.out] at this; exact this) NoBlk (some ⟨V0.heap.size, 0, none⟩) 1 1 (encArm (⟨cutS ap 70, at_⟩ : ArmM)) (by rfl) (rd_blkN HI2.out (fun h => h)) rfl (encArm_one _) (by simp only [maxLen]; omega) (by omega) hbs2 ?_
   intro v9 V3 hown2 hgr _
   obtain ⟨A4, c4, rfl, hc4⟩ := own_cap hown2
   have HG3 := hide hgr
   have HOw3 := hide hown2
   have HBk3 := hide (HM2.out.growB hgr)
   have HB3 := hide (HB2.out.grown hgr (by omega) (fun k hk => by have := own_ge HM2.out.own k hk; omega))
   have HZ3 := hide (HZ2.out.grown HM2.out.own (by decide) hgr)
   have q0n := bkeepL HB3.out hb HL0.out
   have q1n := bkeepL HB3.out hb HL1.out
   clear hgr hown2 q0' q1'
   refine hK.out _ _ (by exact ⟨by rw [HBk3.out.cell]; rfl, q0n, q1n⟩) (fun hHeld => ?_)
   clear hK K
   try simp only [Act.put, List.setIfInBounds_toArray, List.set_cons_zero, List.set_cons_succ, List.getElem_toArray, List.getElem_cons_zero, List.getElem_cons_succ]
   refine wpAnyH_take (i := 16) (v := ?_) rfl (by kernel_rfl) (by kernel_rfl) (by kernel_rfl) (fun _ _ _ h => h) (Or.inl ⟨by rfl, ?_⟩) (by assumption) ?_
   rotate_left
   ·(intro w9 hS9; (try simp only [List.getElem_toArray, List.getElem_cons_zero, List.getElem_cons_succ]); go_simp <;> rfl)
   try simp only [Act.put, List.setIfInBounds_toArray, List.set_cons_zero, List.set_cons_succ, List.getElem_toArray, List.getElem_cons_zero, List.getElem_cons_succ]
   refine wpAnyH_done (by kernel_rfl) ?_ _
   simp only [Exit.then]
   clear hHeld
   have f4 := HBk3.out.frozen 4
   have k4 : V3.cell? ⟨w.heap.size, 4, none⟩ = some (.slice VA q vc) := by rw [HBk3.out.cell]; rfl
   have HM4 := hide (HM2.out.grow (v' := .slice A4 (q + 1) c4) (a := ⟨cutS ap 70, at_⟩) (m := q + 1) HG3.out HOw3.out (by rw [HFl.out]))
   have HB4 := hide (HB3.out.setCell (Nat.le_refl _) (p := ⟨w.heap.size, 4, none⟩) (.slice A4 (q + 1) c4))
   have HZ4 := hide (HZ3.out.only ((Only.refl (· = w.heap.size) V3).setCell (p := ⟨w.heap.size, 4, none⟩) (Or.inl rfl) (.slice A4 (q + 1) c4)) (fun h => by omega))
   rw [show fewArms l q ++ [(⟨cutS ap 70, at_⟩ : ArmM)] = fewArms l (q + 1) from HSq.out.symm] at HM4
   clear q0n q1n
   go_wp2_with fail
   go_roundw
   ·exact ⟨q + 1, _, by omega, by omega, by simp, HM4, HZ4, HB4⟩
   ·simp only [intOf]; omega
end Go.Proofs.YtdmdohjdmnmabaaGreatDoor
