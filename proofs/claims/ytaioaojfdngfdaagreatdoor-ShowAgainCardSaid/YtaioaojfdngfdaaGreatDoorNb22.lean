/- Parts of a chain of lemmas: Pref, Few13. Conditions: those of each theorem. -/
import Derived.Test.YtaioaojfdngfdaaGreatDoorNb01
import Derived.OrdersHeld
import Derived.StillTail
import Derived.RegionTactic
import Derived.Test.YtaioaojfdngfdaaGreatDoorNb08
import Derived.Test.YtaioaojfdngfdaaGreatDoorNb19
import Derived.Test.YtaioaojfdngfdaaGreatDoorNb14
import Derived.Test.YtaioaojfdngfdaaGreatDoorNb09
import Derived.Deep.RegionHeld3
set_option linter.unusedVariables false
set_option linter.unusedSimpArgs false
namespace Go.Proofs.YtaioaojfdngfdaaGreatDoor
open Go.RowKit
section
variable {P : Program} {ops : Array Oper} {Q : Exit → Act → World → Prop}
theorem wpAny_more : ∀ (f : Nat) (listed : Array Bool) (a : Act) (w : World), wpAny P .any ops Q f listed a w → wpAny P .any ops Q (f + 1) listed a w
 | 0, _, _, _, h => ⟨fun _ => h.2, fun i hi => by rw [h.1] at hi; cases hi⟩
 | f + 1, _, _, _, h => ⟨h.1, fun i hi => wpOp_mono (fun a w h' => wpAny_more f _ a w h') (h.2 i hi)⟩
theorem wpAny_le {f g : Nat} (hfg : f ≤ g) {listed : Array Bool} {a : Act} {w : World} (h : wpAny P .any ops Q f listed a w) : wpAny P .any ops Q g listed a w := by
 induction hfg with
 | refl => exact h
 | step _ ih => exact wpAny_more _ _ _ _ ih
theorem wpOp_post {R R' : Act → World → Prop} {i : Nat} {K : Act → World → Prop} {a : Act} {w : World} (h : wpOp P ops (Exit.then R Q) i K a w) : wpOp P ops (Exit.then R' Q) i K a w := by
 unfold wpOp at h ⊢
 cases ho : ops[i]? with
 | none => rw [ho] at h; exact h
 | some o =>
  rw [ho] at h
  by_cases hw : Region.wanted o (yielded ops a.tmps) = true
  ·simp only [hw, if_true] at h ⊢
   rcases h with h | ⟨h1, h2⟩
   ·left
    unfold Oper.wp at h ⊢
    generalize (execOp a.eval o).run P w = r at *
    cases r with
    | ok nx w' => cases nx <;> exact h
    | halt x w' => cases x <;> exact h
   ·exact Or.inr ⟨h1, h2⟩
  ·simp only [hw] at h ⊢
   exact h
theorem wpAny_post {R R' : Act → World → Prop} (hR : ∀ a w, R a w → R' a w) : ∀ (f : Nat) (listed : Array Bool) (a : Act) (w : World), wpAny P .any ops (Exit.then R Q) f listed a w → wpAny P .any ops (Exit.then R' Q) f listed a w
 | 0, _, _, _, h => ⟨h.1, hR _ _ h.2⟩
 | f + 1, _, _, _, h => ⟨fun e => hR _ _ (h.1 e), fun i hi => wpOp_post (wpOp_mono (fun a w h' => wpAny_post hR f _ a w h') (h.2 i hi))⟩
/-- the first n wait for elder ones alone and are not guarded; the next one waits, by others, for all of them, and each behind it for the one ahead -/
def prefB (ops : Array Oper) (n : Nat) : Bool :=
 ((List.range n).all fun t => match ops[t]? with
   | none => false
   | some o => o.guard.isNone && o.after.all (fun e => !Region.binds .any e || decide (e.on < t))) && decide (n < ops.size) && Region.sinkB .any ops n && Region.chainB .any ops n
theorem prefB_lo {n t : Nat} {o : Oper} (hB : prefB ops n = true) (ho : ops[t]? = some o) (ht : t < n) : o.guard = none ∧ ∀ e ∈ o.after, Region.binds .any e = true → e.on < t := by
 unfold prefB at hB
 simp only [Bool.and_eq_true] at hB
 have h := (List.all_eq_true.1 hB.1.1.1) t (List.mem_range.2 ht)
 rw [ho] at h
 simp only [Bool.and_eq_true, Option.isNone_iff_eq_none, Array.all_eq_true_iff_forall_mem, Bool.or_eq_true, Bool.not_eq_true', decide_eq_true_eq] at h
 refine ⟨h.1, fun e he hb => ?_⟩
 rcases h.2 e he with h' | h'
 ·rw [hb] at h'; cases h'
 ·exact h'
theorem prefB_hi {n : Nat} {listed : Array Bool} (hB : prefB ops n = true) (inv : HeadInv .any ops n listed) {i t : Nat} (hi : i < n) (hun : listed.getD i true = false) (ht : n ≤ t) : t ∉ Region.ready .any ops listed := by
 unfold prefB at hB
 simp only [Bool.and_eq_true, decide_eq_true_eq] at hB
 exact tail_waits hB.1.2 hB.2 hB.1.1.2 inv _ i rfl hi hun t ht
def fullL (l : Array Bool) (m : Nat) : Array Bool := l ++ Array.replicate m false
theorem full_lo {l : Array Bool} {m i : Nat} (d : Bool) (hi : i < l.size) : (fullL l m).getD i d = l.getD i d := by
 unfold fullL
 simp [Array.getD_eq_getD_getElem?, Array.getElem?_append_left hi]
theorem full_set {l : Array Bool} {m i : Nat} (hi : i < l.size) : (fullL l m).setIfInBounds i true = fullL (l.setIfInBounds i true) m := by
 unfold fullL
 rw [Array.setIfInBounds_append_left hi]
theorem all_true {l : Array Bool} {n : Nat} (hs : l.size = n) (h : ∀ i, i < n → l.getD i false = true) : l = Array.replicate n true := by
 apply Array.ext
 ·simp [hs]
 ·intro i h1 h2
  have := h i (by omega)
  simp [Array.getD_eq_getD_getElem?, h1] at this
  simp [this]
theorem least_un {l : Array Bool} {n : Nat} (h : ¬ ∀ i, i < n → l.getD i false = true) : ∃ i, i < n ∧ l.getD i false = false ∧ ∀ j, j < i → l.getD j false = true := by
 induction n with
 | zero => exact absurd (fun i hi => absurd hi (by omega)) h
 | succ n ih =>
  by_cases hn : ∀ i, i < n → l.getD i false = true
  ·refine ⟨n, by omega, ?_, hn⟩
   cases hq : l.getD n false with
   | false => rfl
   | true =>
    exfalso
    apply h
    intro i hi
    by_cases e : i = n
    ·subst e; exact hq
    ·exact hn i (by omega)
  ·obtain ⟨i, hi, h1, h2⟩ := ih hn
   exact ⟨i, by omega, h1, h2⟩
theorem unD {l : Array Bool} {i n : Nat} (hs : l.size = n) (hi : i < n) : l.getD i true = l.getD i false := by
 have h1 : i < l.size := by omega
 simp [Array.getD_eq_getD_getElem?, h1]
theorem wpOp_pref {n i : Nat} {R : Act → World → Prop} {K K' : Act → World → Prop} {a : Act} {w : World} (hn : n ≤ ops.size) (hi : i < n) (hB : prefB ops n = true) (hK : ∀ a w, K a w → K' a w)
 (h : wpOp P (ops.extract 0 n) (Exit.then R Q) i K a w) : wpOp P ops Q i K' a w := by
 have hlt : i < ops.size := by omega
 have ho : ops[i]? = some ops[i] := Array.getElem?_eq_getElem hlt
 have he : (ops.extract 0 n)[i]? = some ops[i] := by
  rw [Array.getElem?_extract]
  simp only [Nat.zero_add, Nat.sub_zero]
  rw [if_pos (by omega), ho]
 have hg := (prefB_lo hB ho hi).1
 unfold wpOp at h ⊢
 rw [he] at h
 rw [ho]
 have hw : ∀ y, Region.wanted ops[i] y = true := by intro y; simp [Region.wanted, hg]
 simp only [hw, if_true] at h ⊢
 rcases h with h | ⟨h1, h2⟩
 ·left
  refine Oper.wp_mono hK ?_
  unfold Oper.wp at h ⊢
  generalize (execOp a.eval ops[i]).run P w = r at *
  cases r with
  | ok nx w' => cases nx <;> exact h
  | halt x w' => cases x <;> exact h
 ·right
  exact ⟨h1, h2⟩
theorem wpAny_pref {n : Nat} (hn : n ≤ ops.size) (hB : prefB ops n = true) : ∀ (fuel : Nat) (l : Array Bool) (a : Act) (w : World), l.size = n → HeadInv .any ops n (fullL l (ops.size - n)) →
 wpAny P .any (ops.extract 0 n) (Exit.then (fun a w => wpAny P .any ops Q (ops.size - n) (fullL (Array.replicate n true) (ops.size - n)) a w) Q) fuel l a w →
 wpAny P .any ops Q (fuel + (ops.size - n)) (fullL l (ops.size - n)) a w := by
 have hsz : (ops.extract 0 n).size = n := by rw [Array.size_extract]; omega
 have hget : ∀ i, i < n → (ops.extract 0 n)[i]? = ops[i]? := by
  intro i hi
  rw [Array.getElem?_extract]
  simp only [Nat.zero_add, Nat.sub_zero]
  rw [if_pos (by omega)]
 have key : ∀ (l : Array Bool), l.size = n → HeadInv .any ops n (fullL l (ops.size - n)) → (¬ ∀ i, i < n → l.getD i false = true) → (∃ j, j ∈ Region.ready .any (ops.extract 0 n) l) ∧ (∀ j, j ∈ Region.ready .any ops (fullL l (ops.size - n)) → j < n ∧ j ∈ Region.ready .any (ops.extract 0 n) l) := by
  intro l hs hv hno
  obtain ⟨i, hi, h1, h2⟩ := least_un hno
  have hoi : ops[i]? = some (ops[i]'(by omega)) := Array.getElem?_eq_getElem (by omega)
  refine ⟨⟨i, mem_ready.2 ⟨by rw [unD hs hi]; exact h1, _, by rw [hget i hi]; exact hoi, fun e he hb => h2 _ ((prefB_lo hB hoi hi).2 e he hb)⟩⟩, fun j hj => ?_⟩
  obtain ⟨g1, o, g2, g3⟩ := mem_ready.1 hj
  have hjn : j < n := by
   rcases Nat.lt_or_ge j n with h | h
   ·exact h
   ·exact absurd hj (prefB_hi hB hv hi (by rw [full_lo true (by omega), unD hs hi]; exact h1) h)
  refine ⟨hjn, mem_ready.2 ⟨by rw [← full_lo (m := ops.size - n) true (by omega)]; exact g1, o, by rw [hget j hjn]; exact g2, fun e he hb => ?_⟩⟩
  have hon := (prefB_lo hB g2 hjn).2 e he hb
  rw [← full_lo (m := ops.size - n) false (by omega)]
  exact g3 e he hb
 intro fuel
 induction fuel with
 | zero =>
  intro l a w hs hv h
  by_cases hall : ∀ i, i < n → l.getD i false = true
  ·rw [all_true hs hall, Nat.zero_add]
   exact h.2
  ·obtain ⟨⟨j, hj⟩, _⟩ := key l hs hv hall
   rw [h.1] at hj; cases hj
 | succ fuel ih =>
  intro l a w hs hv h
  by_cases hall : ∀ i, i < n → l.getD i false = true
  ·have hnil : Region.ready .any (ops.extract 0 n) l = [] := by
    rw [List.eq_nil_iff_forall_not_mem]
    intro j hj
    obtain ⟨g1, o, g2, _⟩ := mem_ready.1 hj
    have hjn : j < n := by
     have := (Array.getElem?_eq_some_iff.1 g2).1
     omega
    rw [unD hs hjn, hall j hjn] at g1
    cases g1
   have h' := h.1 hnil
   rw [all_true hs hall]
   exact wpAny_le (by omega) h'
  ·obtain ⟨⟨j0, hj0⟩, hk⟩ := key l hs hv hall
   rw [Nat.add_right_comm]
   refine ⟨fun hnil => ?_, fun i hi => ?_⟩
   ·exfalso
    obtain ⟨g1, o, g2, g3⟩ := mem_ready.1 hj0
    have hjn : j0 < n := by
     have := (Array.getElem?_eq_some_iff.1 g2).1
     omega
    have : j0 ∈ Region.ready .any ops (fullL l (ops.size - n)) := mem_ready.2 ⟨by rw [full_lo true (by omega)]; exact g1, o, by rw [← hget j0 hjn]; exact g2, fun e he hb => by
     have hon := (prefB_lo hB (by rw [← hget j0 hjn]; exact g2) hjn).2 e he hb
     rw [full_lo false (by omega)]
     exact g3 e he hb⟩
    rw [hnil] at this; cases this
   ·obtain ⟨hin, hir⟩ := hk i hi
    refine wpOp_pref hn hin hB (fun a' w' h' => ?_) (h.2 i hir)
    rw [full_set (by omega)]
    exact ih (l.setIfInBounds i true) a' w' (by simp [hs]) (by rw [← full_set (by omega)]; exact hv.set hi hin) h'
/-- the region that draws, parted: the loads of its first part may be taken first under S, which its stores need not keep -/
theorem wp_region_pref {id : Nat} {l l1 l2 : List Oper} {a : Act} {w : World} (n : Nat) (S : World → Prop) (hm : P.follows .mixedOrders = true) (hn : n ≤ l.length) (hB : prefB l.toArray n = true)
 (hT : Region.seqB .any l.toArray (l.length - n) n (fullL (Array.replicate n true) (l.length - n)) = true) (h1 : l.take n = l1) (h2 : l.drop n = l2) (hS : S w.drew)
 (h : S w.drew → wpAnyH P .any l1.toArray (Exit.then (fun a w => wpList P l.toArray Q l2 a w) Q) S n (Array.replicate n false) a w.drew) :
 (Code.region id l.toArray true).wp P Q a w := by
 refine wp_region_any hm ?_
 have hsz : l.toArray.size = l.length := by simp
 have hn' : n ≤ l.toArray.size := by simpa using hn
 have hl2 : l2.length = l.length - n := by rw [← h2, List.length_drop]
 have hpre : l1.toArray = l.toArray.extract 0 n := by rw [← h1]; simp
 have h' := wpAny_of_held _ _ _ _ (h hS)
 rw [hpre] at h'
 have h3 : wpAny P .any (l.toArray.extract 0 n) (Exit.then (fun a w => wpAny P .any l.toArray Q (l.toArray.size - n) (fullL (Array.replicate n true) (l.toArray.size - n)) a w) Q) n (Array.replicate n false) a w.drew := by
  refine wpAny_post (fun a w h => ?_) _ _ _ _ h'
  have := wpAny_of_seq (P := P) (md := .any) (ops := l.toArray) (Q' := Q) l2 n (fullL (Array.replicate n true) (l.length - n)) a w (fun j => by rw [← h2, List.getElem?_drop]; simp) (by rw [hl2]; exact hT) h
  rw [hl2] at this
  rw [hsz]; exact this
 have e1 : n + (l.toArray.size - n) = l.toArray.size := by omega
 have e2 : fullL (Array.replicate n false) (l.toArray.size - n) = Array.replicate l.toArray.size false := by
  unfold fullL
  rw [Array.replicate_append_replicate, e1]
 have hv : HeadInv .any l.toArray n (fullL (Array.replicate n false) (l.toArray.size - n)) := by
  rw [e2]
  refine ⟨by simp, fun j oj hj hl => ?_, fun t ht ht' => by have h9 : t < l.length := (by simpa using ht'); simp [h9]⟩
  rw [getD_replicate_false] at hl
  cases hl
 have h4 := wpAny_pref hn' hB n (Array.replicate n false) a w.drew (by simp) hv h3
 rw [e1, e2] at h4
 exact h4
end
def fewArm (a : ArmM) : ArmM := ⟨cutS a.pat 70, a.to⟩
def fewArms (l : List ArmM) (k : Nat) : List ArmM := (l.take k).map fewArm
def fewOp (o : OpM) : OpM := ⟨o.kind, cutS o.text 300, o.n, o.to, fewArms o.arms 10, o.onT, o.onE⟩
theorem fewArms_succ (l : List ArmM) (k : Nat) (h : k < l.length) : fewArms l (k + 1) = fewArms l k ++ [fewArm (armAt l k)] := by
 have e : armAt l k = l[k] := by simp [armAt, List.getD, h]
 unfold fewArms
 rw [List.take_succ_eq_append_getElem h, ← e]
 simp
theorem fewArms_len (l : List ArmM) (k : Nat) (h : k ≤ l.length) : (fewArms l k).length = k := by
 unfold fewArms
 rw [List.length_map, List.length_take]
 omega
theorem Tryz.infoArm : (Tryz.prog.info? 94).map (fun i => (i.zero, i.size, i.bytes)) = some (some (.agg #[.string ⟨#[]⟩, .int .i64 0]), 2, 24) := by kernel_rfl
theorem Tryz.infoOp : (Tryz.prog.info? 92).map (fun i => (i.zero, i.size, i.bytes)) = some (some (.agg #[.int .i64 0, .string ⟨#[]⟩, .int .i64 0, .int .i64 0, .slice none 0 0, .int .i64 0, .int .i64 0]), 7, 80) := by kernel_rfl
theorem Tryz.infoPrg : (Tryz.prog.info? 25).map (fun i => (i.zero, i.size, i.bytes)) = some (some (.agg #[.string ⟨#[]⟩, .int .i64 0, .int .i64 0, .slice none 0 0]), 4, 56) := by kernel_rfl
theorem encArm_one (a : ArmM) : ∀ u ∈ encArm a, u.oneCell' = true := by intro u hu; simp [encArm] at hu; rcases hu with rfl | rfl <;> rfl
theorem encOp_one (v : OpV) : ∀ u ∈ encOp v, u.oneCell' = true := by intro u hu; simp [encOp] at hu; rcases hu with rfl | rfl | rfl | rfl | rfl | rfl | rfl <;> rfl
/-- an op under way: its block, its arms -/
structure OpMid (w : World) (base g : Nat) (k : Int) (t : ByteArray) (n gt : Int) (va : Value) (x y : Int) (l : List ArmM) : Prop where
 blk : Blk w g 92 #[.int .i64 k, .string t, .int .i64 n, .int .i64 gt, va, .int .i64 x, .int .i64 y]
 own : w.ownsRow base 94 2 va l.length (flat encArm l)
section
variable {w w' : World} {base g : Nat} {k : Int} {t : ByteArray} {n gt : Int} {va : Value} {x y : Int} {l : List ArmM}
theorem OpMid.same (h : OpMid w base g k t n gt va x y l) (q : Only NoBlk w w') : OpMid w' base g k t n gt va x y l := ⟨h.blk.only q (fun h => h), own_only h.own q (fun _ _ h => h.elim)⟩
theorem OpMid.alloc (h : OpMid w base g k t n gt va x y l) (o : Obj) : OpMid (w.alloc o) base g k t n gt va x y l := h.same ((Only.refl _ w).alloc o)
theorem OpMid.drew (h : OpMid w base g k t n gt va x y l) : OpMid w.drew base g k t n gt va x y l := h.same (Only.refl _ w).drew
theorem OpMid.cell (h : OpMid w base g k t n gt va x y l) : w.cell? ⟨g, 4, none⟩ = some va := by rw [h.blk.cell]; rfl
theorem OpMid.growB (h : OpMid w base g k t n gt va x y l) (hg : w.grownBy w' va.ownBlock) : Blk w' g 92 #[.int .i64 k, .string t, .int .i64 n, .int .i64 gt, va, .int .i64 x, .int .i64 y] := Blk.grown h.blk h.own (by decide) hg
theorem OpMid.grow {v' : Value} {a : ArmM} {m : Nat} (h : OpMid w base g k t n gt va x y l) (hg : w.grownBy w' va.ownBlock) (ho : w'.ownsRow base 94 2 v' m (flat encArm l ++ encArm a)) (hm : m = l.length + 1) : OpMid (w'.setCell ⟨g, 4, none⟩ v') base g k t n gt v' x y (l ++ [a]) := by
 have hb := h.growB hg
 have q := (Only.refl (· = g) w').setCell (p := ⟨g, 4, none⟩) (Or.inl rfl) v'
 refine ⟨hb.set_ 4 v', own_only ?_ q ?_⟩
 ·subst hm
  have e : flat encArm (l ++ [a]) = flat encArm l ++ encArm a := by simp [flat]
  simpa [e] using ho
 ·intro g' cs hg hx
  subst hg
  exact Blk.ne_ hx hb (by decide) rfl
end
set_option maxRecDepth 100000 in
set_option maxHeartbeats 12800000 in
theorem fewop_c (k : Int) (t : ByteArray) (n gt : Int) (A : Option Addr) (l : List ArmM) (c : Nat) (x y : Int) (w : World) (hr : Rd w NoBlk A (flat encArm l)) (hn : l.length ≤ maxLen) :
 Calls Tryz.prog 58 #[.agg #[.int .i64 k, .string t, .int .i64 n, .int .i64 gt, .slice A l.length c, .int .i64 x, .int .i64 y]] w fun e w' =>
  (∃ B c2, e = .returned (.agg #[.int .i64 k, .string (cutS t 300), .int .i64 n, .int .i64 gt, .slice B (fewArms l 10).length c2, .int .i64 x, .int .i64 y]) ∧ Rd w' (· < w.heap.size) B (flat encArm (fewArms l 10))) ∧ Below w.heap.size w w' := by
 obtain ⟨ia, hia, hz0, hz1, hz2⟩ := info_parts Tryz.infoArm
 have hn' : l.length ≤ 9223372036854775807 := hn
 have HCut := hide (fun s m w hm => cutS_c s m w hm)
 have HR := hide (fun (w' : World) (h : Below w.heap.size w w') (i : Nat) (hi : i < l.length) => arm_cells (hr.below h) i hi)
 have HS := hide (fun k h => fewArms_succ l k h)
 have HL := hide (fun k h => fewArms_len l k h)
 have HTk := hide (show ∀ q, (q = l.length ∨ q = 10) → q ≤ l.length → q ≤ 10 → fewArms l 10 = fewArms l q from by
  intro q hq h1 h2
  rcases hq with rfl | rfl
  ·unfold fewArms
   rw [List.take_of_length_le h2, List.take_of_length_le (Nat.le_refl _)]
  ·rfl)
 obtain ⟨m, hm⟩ : ∃ m, m = l.length := ⟨_, rfl⟩
 rw [← hm] at hn' HR HS HL HTk ⊢
 clear hr hn hm
 go_enter Tryz.func58, Tryz.ntmps58
 go_wp2_with fail
 refine (HCut.out t 300 _ (by omega)).mono ?_
 rintro e wc ⟨rfl, rfl⟩
 go_wp2_with fail
 have HZ0 := hide (show Blk (((w.alloc (.cells #[.int .i64 k, .string (cutS t 300), .int .i64 n, .int .i64 gt, .slice (some ⟨w.heap.size + 1 + 1, 0, none⟩) 0 0, .int .i64 x, .int .i64 y] 92)).alloc (.cells #[.int .i64 0, .string ⟨#[]⟩, .int .i64 0, .int .i64 0, .slice none 0 0, .int .i64 0, .int .i64 0] 92)).alloc (.cells #[] 94)) (w.heap.size + 1) 92 #[.int .i64 0, .string ⟨#[]⟩, .int .i64 0, .int .i64 0, .slice none 0 0, .int .i64 0, .int .i64 0] from (Blk.new' (by simp)).alloc _)
 go_loopw [4] (fun i wr => ∃ (q : Nat) (va : Value), q ≤ m ∧ q ≤ 10 ∧ i = .int .i64 q ∧ Hid (OpMid wr (w.heap.size + 2) w.heap.size k (cutS t 300) n gt va x y (fewArms l q)) ∧ Hid (Blk wr (w.heap.size + 1) 92 #[.int .i64 0, .string ⟨#[]⟩, .int .i64 0, .int .i64 0, .slice none 0 0, .int .i64 0, .int .i64 0]) ∧ Hid (Below w.heap.size w wr)) (fun i _ => m - (intOf i).toNat)
 case atStart => exact ⟨0, _, Nat.zero_le _, Nat.zero_le _, rfl, hide ⟨((Blk.new _ _ _).alloc _).alloc _, by simpa [fewArms, flat] using own_empty' (w := (w.alloc (.cells #[.int .i64 k, .string (cutS t 300), .int .i64 n, .int .i64 gt, .slice (some ⟨w.heap.size + 1 + 1, 0, none⟩) 0 0, .int .i64 x, .int .i64 y] 92)).alloc (.cells #[.int .i64 0, .string ⟨#[]⟩, .int .i64 0, .int .i64 0, .slice none 0 0, .int .i64 0, .int .i64 0] 92)) (base := w.heap.size + 2) (g := w.heap.size + 2) (e := 94) (size := 2) (by simp) (by simp)⟩, HZ0, hide ((((below_alloc _ _).alloc (by simp) _).alloc (by simp; omega) _))⟩
 case round =>
  clear HZ0
  obtain ⟨q, va, hqm, hq10, rfl, HM, HZ, HB⟩ := hrel
  by_cases hlt : q < m ∧ q < 10
  case neg =>
   have HQ := hide (HTk.out q (by omega) (by omega) (by omega))
   obtain ⟨VA, vc, rfl, _⟩ := own_cap HM.out.own
   have hfl := HL.out q (by omega)
   obtain ⟨fn, hfn⟩ : ∃ fn, fn = (fewArms l q).length := ⟨_, rfl⟩
   have hrd := Rd.of_own (M := NoBlk) HM.out.own (fun _ h => h.elim)
   have hblk := HM.out.blk
   rw [← hfn] at hblk
   have Hfn := hide hfn
   have HRd := hide hrd
   have HBk := hide hblk
   obtain ⟨v0, v1, v2, v3, v4, v5, v6⟩ := hblk.seven
   obtain ⟨z0, z1, z2, z3, z4, z5, z6⟩ := HZ.out.seven
   have e0 := HZ.out.frozen 0
   have e1 := HZ.out.frozen 1
   have e2 := HZ.out.frozen 2
   have e3 := HZ.out.frozen 3
   have e4 := HZ.out.frozen 4
   have e5 := HZ.out.frozen 5
   have e6 := HZ.out.frozen 6
   have Hlt := hide hlt
   have HRm := hide (Rd.of_own (M := (· < w.heap.size + 2)) HM.out.own (fun k hk => hk))
   clear hrd hblk hfn hfl hlt
   go_wp2_with fail
   all_goals first
    | (exfalso; have := Hlt.out; omega)
    | (rw [put7]
       have r2 := HZ.out.put [.int .i64 k, .string (cutS t 300), .int .i64 n, .int .i64 gt, .slice VA fn vc, .int .i64 x, .int .i64 y] rfl
       have r3 := below_put [.int .i64 k, .string (cutS t 300), .int .i64 n, .int .i64 gt, .slice VA fn vc, .int .i64 x, .int .i64 y] 0 HB.out (show w.heap.size ≤ w.heap.size + 1 by omega)
       have r4 := (HRm.out.only (only_put [.int .i64 k, .string (cutS t 300), .int .i64 n, .int .i64 gt, .slice VA fn vc, .int .i64 x, .int .i64 y] 0 wr (w.heap.size + 1)) (fun k hk => by have : k = w.heap.size + 1 := hk; show k < w.heap.size + 2; omega)).mono (M' := (· < w.heap.size)) (fun k hk => by have : k < w.heap.size := hk; show k < w.heap.size + 2; omega)
       obtain ⟨p0, p1, p2, p3, p4, p5, p6⟩ := r2.seven
       refine bodyPost_ret (v := .agg #[.int .i64 k, .string (cutS t 300), .int .i64 n, .int .i64 gt, .slice VA fn vc, .int .i64 x, .int .i64 y]) (by simp [results, Tryz.results58, go_sem, p0, p1, p2, p3, p4, p5, p6]) rfl ?_
       refine ⟨⟨VA, vc, by rw [HQ.out, ← Hfn.out], by rw [HQ.out]; exact r4⟩, r3⟩)
  case pos =>
   obtain ⟨hl1, hl2⟩ := hlt
   obtain ⟨b, ob, rfl, hb, r0, r1⟩ := HR.out w (Below.refl _ _) q hl1
   have HSq := hide (HS.out q hl1)
   have hfl := HL.out q (by omega)
   obtain ⟨a, ha⟩ : ∃ a, a = armAt l q := ⟨_, rfl⟩
   rw [← ha] at r0 r1 HSq
   obtain ⟨ap, at_⟩ := a
   simp only at r0 r1
   have HL0 := hide r0
   have HL1 := hide r1
   replace r0 := bkeepL HB.out hb r0
   replace r1 := bkeepL HB.out hb r1
   obtain ⟨VA, vc, rfl, hvc⟩ := own_cap HM.out.own
   have d1 : decide ((q : Int) < (m : Int)) = true := by simp; omega
   have d2 : decide ((q : Int) < 10) = true := by simp; omega
   have j1 : (0 : Int) ≤ (q : Int) := by omega
   have j2 : (q : Int) < (m : Int) := by omega
   have w1 : IntKind.i64.wrap ((q : Int) + 1) = (q : Int) + 1 := IntWalk.i64_in _ (by omega)
   have HFl := hide hfl
   rw [hfl] at HM hvc
   clear ha hfl
   have hgl := HM.out.blk.lt
   have hcell := HM.out.cell
   go_upto_region 6 with fail
   obtain ⟨V0, hV0⟩ : ∃ V9, V9 = wr.drew := ⟨_, rfl⟩
   have HM0 := hide (HM.out.drew)
   have HB0 := hide (below_dr HB.out)
   have HZ0 := hide (HZ.out.drew)
   have q0 : wr.drew.cell? ⟨b, ob + q * 2, none⟩ = some (.string ap) := r0
   have q1 : wr.drew.cell? ⟨b, ob + q * 2 + 1, none⟩ = some (.int .i64 at_) := r1
   rw [← hV0] at HM0 HB0 HZ0 q0 q1
   clear r0 r1 hcell
   refine wp_region_pref (l1 := ?_) (l2 := ?_) 17 (fun w' => w'.cell? ⟨w.heap.size, 4, none⟩ = some (.slice VA q vc) ∧ w'.cell? ⟨b, ob + q * 2, none⟩ = some (.string ap) ∧ w'.cell? ⟨b, ob + q * 2 + 1, none⟩ = some (.int .i64 at_)) (by kernel_rfl) ?_ ?_ ?_ ?_ ?_ ?_ (fun hHeld => ?_)
   rotate_left 2
   ·simp
   ·kernel_rfl
   ·kernel_rfl
   ·simp only [List.take_succ_cons, List.take_zero]; rfl
   ·simp only [List.drop_succ_cons, List.drop_zero]; rfl
   ·rw [← hV0]; exact ⟨HM0.out.cell, q0, q1⟩
   rw [← hV0] at hHeld ⊢
   clear hV0
   refine tk 0 ?_ rfl ?_ ?_
   rotate_left
   ·(intro w9 hS9; (try simp only [ga]); go_simp <;> rfl)
   refine tk 1 ?_ rfl ?_ ?_
   rotate_left
   ·(intro w9 hS9; (try simp only [ga]); go_simp <;> rfl)
   refine tk 2 ?_ rfl ?_ ?_
   rotate_left
   ·(intro w9 hS9; (try simp only [ga]); go_simp <;> rfl)
   refine tk 3 ?_ rfl ?_ ?_
   rotate_left
   ·(intro w9 hS9; (try simp only [ga]); go_simp <;> rfl)
   refine tk 4 ?_ rfl ?_ ?_
   rotate_left
   ·(intro w9 hS9; (try simp only [ga]); go_simp <;> rfl)
   refine tk 5 ?_ rfl ?_ ?_
   rotate_left
   ·(intro w9 hS9; (try simp only [ga]); go_simp <;> rfl)
   refine tk 6 ?_ rfl ?_ ?_
   rotate_left
   ·(intro w9 hS9; (try simp only [ga]); go_simp <;> rfl)
   refine tk 8 ?_ rfl ?_ ?_
   rotate_left
   ·(intro w9 hS9; (try simp only [ga]); go_simp <;> rfl)
   refine tk 9 ?_ rfl ?_ ?_
   rotate_left
   ·(intro w9 hS9; (try simp only [ga]); go_simp <;> rfl)
   refine tk 10 ?_ rfl ?_ ?_
   rotate_left
   ·(intro w9 hS9; (try simp only [ga]); go_simp <;> rfl)
   refine tk 11 ?_ rfl ?_ ?_
   rotate_left
   ·(intro w9 hS9; (try simp only [ga]); go_simp <;> rfl)
   refine tk 12 ?_ rfl ?_ ?_
   rotate_left
   ·(intro w9 hS9; (try simp only [ga]); go_simp <;> rfl)
   try simp only [Act.put, gp]
   refine rdy 7 rfl (fun K hK => ?_)
   try simp only [ga]
   try go_simp
   go_at_call 12
   refine (HCut.out ap 70 _ (by omega)).mono ?_
   rintro e V9 ⟨rfl, h9⟩
   obtain rfl := h9
   refine hK.out _ _ ⟨HM0.out.cell, q0, q1⟩ (fun hHeld => ?_)
   clear hK K
   refine tk 13 ?_ rfl ?_ ?_
   rotate_left
   ·(intro w9 hS9; (try simp only [ga]); go_simp <;> rfl)
   try simp only [Act.put, gp]
   refine rdy 14 rfl (fun K hK => ?_)
   try simp only [ga]
   try go_simp
   obtain ⟨V2, hV2⟩ : ∃ V9, V9 = V0.alloc (.cells (encArm (⟨cutS ap 70, at_⟩ : ArmM)).toArray 94) := ⟨_, rfl⟩
   have HM2 := hide (HM0.out.alloc (.cells (encArm (⟨cutS ap 70, at_⟩ : ArmM)).toArray 94))
   have HB2 := hide (HB0.out.alloc HB0.out.size (.cells (encArm (⟨cutS ap 70, at_⟩ : ArmM)).toArray 94))
   have HZ2 := hide (HZ0.out.alloc (.cells (encArm (⟨cutS ap 70, at_⟩ : ArmM)).toArray 94))
   have HI2 := hide (Blk.new V0 94 (encArm (⟨cutS ap 70, at_⟩ : ArmM)).toArray)
   have q0' := bkeep (below_alloc V0 (.cells (encArm (⟨cutS ap 70, at_⟩ : ArmM)).toArray 94)) q0
   have q1' := bkeep (below_alloc V0 (.cells (encArm (⟨cutS ap 70, at_⟩ : ArmM)).toArray 94)) q1
   simp only [encArm] at hV2
   rw [← hV2]
   rw [show V0.alloc (.cells (encArm (⟨cutS ap 70, at_⟩ : ArmM)).toArray 94) = V2 from hV2.symm] at HM2 HB2 HZ2 HI2 q0' q1'
   clear hV2 q0 q1
   refine hK.out _ _ ⟨HM2.out.cell, q0', q1'⟩ (fun hHeld => ?_)
   clear hK K
   try simp only [Act.put, gp]
   refine rdy 15 rfl (fun K hK => ?_)
   have hbs2 : w.heap.size + 2 ≤ V2.heap.size := by have := HZ2.out.lt; omega
   refine step_append_rd V2 (by rfl) (.tmp 24) (.tmp 37) _ (by rfl) (w.heap.size + 2) 94 ia _ 2 24 Tryz.underlying90 hia hz0 hz1 hz2 rfl (by omega) (.slice VA q vc) q (flat encArm (fewArms l q)) (by rfl) (by have := HM2.out.own; rw [HFl.out] at this; exact this) NoBlk (some ⟨V0.heap.size, 0, none⟩) 1 1 (encArm (⟨cutS ap 70, at_⟩ : ArmM)) (by rfl) (rd_blkN HI2.out (fun h => h)) rfl (encArm_one _) (by simp only [maxLen]; omega) (by omega) hbs2 ?_
   intro v9 V3 hown2 hgr _
   obtain ⟨A4, c4, rfl, hc4⟩ := own_cap hown2
   have HG3 := hide hgr
   have HOw3 := hide hown2
   have HBk3 := hide (HM2.out.growB hgr)
   have HB3 := hide (HB2.out.grown hgr (by omega) (fun k hk => by have := own_ge HM2.out.own k hk; omega))
   have HZ3 := hide (HZ2.out.grown HM2.out.own (by decide) hgr)
   have q0n := bkeepL HB3.out hb HL0.out
   have q1n := bkeepL HB3.out hb HL1.out
   clear hgr hown2 q0' q1'
   refine hK.out _ _ (by exact ⟨by rw [HBk3.out.cell]; rfl, q0n, q1n⟩) (fun hHeld => ?_)
   clear hK K
   refine tk 16 ?_ rfl ?_ ?_
   rotate_left
   ·(intro w9 hS9; (try simp only [ga]); go_simp <;> rfl)
   try simp only [Act.put, gp]
   refine wpAnyH_done (by kernel_rfl) ?_ _
   simp only [Exit.then]
   clear hHeld
   have f4 := HBk3.out.frozen 4
   have k4 : V3.cell? ⟨w.heap.size, 4, none⟩ = some (.slice VA q vc) := by rw [HBk3.out.cell]; rfl
   have HM4 := hide (HM2.out.grow (v' := .slice A4 (q + 1) c4) (a := ⟨cutS ap 70, at_⟩) (m := q + 1) HG3.out HOw3.out (by rw [HFl.out]))
   have HB4 := hide (HB3.out.setCell (Nat.le_refl _) (p := ⟨w.heap.size, 4, none⟩) (.slice A4 (q + 1) c4))
   have HZ4 := hide (HZ3.out.only ((Only.refl (· = w.heap.size) V3).setCell (p := ⟨w.heap.size, 4, none⟩) (Or.inl rfl) (.slice A4 (q + 1) c4)) (fun h => by omega))
   rw [show fewArms l q ++ [(⟨cutS ap 70, at_⟩ : ArmM)] = fewArms l (q + 1) from HSq.out.symm] at HM4
   clear q0n q1n
   go_wp2_with fail
   go_roundw
   ·exact ⟨q + 1, _, by omega, by omega, by simp, HM4, HZ4, HB4⟩
   ·simp only [intOf]; omega
end Go.Proofs.YtaioaojfdngfdaaGreatDoor
