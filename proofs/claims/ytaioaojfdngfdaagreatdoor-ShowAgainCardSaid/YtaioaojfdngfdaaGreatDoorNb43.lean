/- Parts of a chain of lemmas: OpS, Del, Next, WnP, Ids31b. Conditions: those of each theorem. -/
import Derived.Test.YtaioaojfdngfdaaGreatDoorNb42
import Derived.Test.YtaioaojfdngfdaaGreatDoorNb09
import Derived.Test.YtaioaojfdngfdaaGreatDoorNb03
import Derived.Laws.IdiomCopy
import Derived.Test.YtaioaojfdngfdaaGreatDoorNb20
import Derived.Deep.RegionHeld3
import Derived.Test.YtaioaojfdngfdaaGreatDoorNb23
set_option linter.unusedVariables false
set_option linter.unusedSimpArgs false
namespace Go.Proofs.YtaioaojfdngfdaaGreatDoor
open Go.RowKit
set_option maxRecDepth 100000 in
set_option maxHeartbeats 12800000 in
theorem sOp_c (B b : Nat) (l : List UInt8) (k : Int) (t : ByteArray) (n gt : Int) (A : Option Addr) (ar : List ArmM) (c : Nat) (x y : Int) (w : World) (h : BlAt B b l w) (hb0 : b < w.heap.size) (hr : ∀ w', Below B w w' → Rd w' NoBlk A (flat encArm ar)) (ht : ∀ w', Below B w w' → Tab w') (hz : OpW ⟨k, t, n, gt, ar, x, y⟩) (hlen : l.length ≤ 70000000000000) :
 Calls Tryz.prog 65 #[.pointer (some ⟨b, 0, none⟩), .agg #[.int .i64 k, .string t, .int .i64 n, .int .i64 gt, .slice A ar.length c, .int .i64 x, .int .i64 y]] w fun e w' => e = .returned (.tuple #[]) ∧ Bo B b (l ++ opT ⟨k, t, n, gt, ar, x, y⟩) w w' := by
 obtain ⟨m, hm⟩ : ∃ m, m = ar.length := ⟨_, rfl⟩
 obtain ⟨V4, hW⟩ : ∃ W, W = w.alloc (.cells #[.int .i64 k, .string t, .int .i64 n, .int .i64 gt, .slice A ar.length c, .int .i64 x, .int .i64 y] 92) := ⟨_, rfl⟩
 obtain ⟨g, hg⟩ : ∃ g, g = w.heap.size := ⟨_, rfl⟩
 have HO4 := hide (show Bo B b l w V4 by rw [hW]; exact (Bo.refl h).alloc _)
 have HG4 := hide (show Blk V4 g 92 #[.int .i64 k, .string t, .int .i64 n, .int .i64 gt, .slice A ar.length c, .int .i64 x, .int .i64 y] by rw [hW, hg]; exact Blk.new _ _ _)
 have hsz : b < V4.heap.size := by rw [hW]; simp; omega
 have HX := hide (sExpect_c B b l k t n gt A ar c x y V4 HO4.out.1 hsz (fun w' q => hr w' (HO4.out.2.1.trans q)) (fun w' q => ht w' (HO4.out.2.1.trans q)) hz hlen)
 rw [← hm] at hW HG4 HX ⊢
 have HWd := hide (fun (w' : World) => Word_c k w')
 have HTk := hide (Text_c n V4 hz.n.2 (ht V4 HO4.out.2.1))
 have HLb := hide (label_c gt V4 hz.go.1 hz.go.2 (ht V4 HO4.out.2.1))
 have HQu := hide (Quote_c t V4 (by have := hz.text; simp only at this; omega))
 have h2 := word_len k
 have h3 : (tkT n).length ≤ 21 := tk_len hz.n.2
 have h6 : (labelT gt).length ≤ 22 := label_len hz.go.1 hz.go.2
 have h7 := quote_len t.data.toList
 have h8 : t.data.toList.length = t.size := by simp
 have h9 := hz.text
 simp only at h9
 have e1 := line2_len (wordT k) (quoteT t.data.toList)
 have e3 := line2_len (wordT k) (labelT gt)
 have e4 := line2_len (wordT k) (tkT n)
 have e5 : (lineT [wordT k]).length = (wordT k).length + 1 := by unfold lineT wordsT; simp
 have HL1 := hide (show (lineT [wordT k, quoteT t.data.toList]).length ≤ 500000 by omega)
 have HL3 := hide (show (lineT [wordT k, labelT gt]).length ≤ 40 by omega)
 have HL4 := hide (show (lineT [wordT k, tkT n]).length ≤ 40 by omega)
 have HL0 := hide (show (lineT [wordT k]).length ≤ 40 by omega)
 have HLn := hide (fun (g : Nat) (l : List UInt8) (ws : List (List UInt8)) (w' : World) (h : BlAt B b l w') (hg : Blk w' g 9 (ws.map strV).toArray) (hn : ws.length ≤ 8) (hlen : l.length + (lineT ws).length ≤ 140737488355328) => line_c B b g l ws w' h hg hn hlen)
 have HE := hide (show opT ⟨k, t, n, gt, ar, x, y⟩ = if k = 1 then lineT [wordT k, quoteT t.data.toList] else if k = 2 then expectT ⟨k, t, n, gt, ar, x, y⟩ else if k = 3 then lineT [wordT k, labelT gt] else if k = 4 then lineT [wordT k, tkT n] else lineT [wordT k] from rfl)
 have HW := hide hW
 have Hg := hide hg
 have c0 : V4.cell? ⟨g, 0, none⟩ = some (.int .i64 k) := by rw [HG4.out.cell]; rfl
 have c1 : V4.cell? ⟨g, 1, none⟩ = some (.string t) := by rw [HG4.out.cell]; rfl
 have c2 : V4.cell? ⟨g, 2, none⟩ = some (.int .i64 n) := by rw [HG4.out.cell]; rfl
 have c3 : V4.cell? ⟨g, 3, none⟩ = some (.int .i64 gt) := by rw [HG4.out.cell]; rfl
 have c4 : V4.cell? ⟨g, 4, none⟩ = some (.slice A m c) := by rw [HG4.out.cell]; rfl
 have c5 : V4.cell? ⟨g, 5, none⟩ = some (.int .i64 x) := by rw [HG4.out.cell]; rfl
 have c6 : V4.cell? ⟨g, 6, none⟩ = some (.int .i64 y) := by rw [HG4.out.cell]; rfl
 clear h hr ht hz hm hW hg h2 h3 h6 h7 h8 h9 e1 e3 e4 e5 hsz
 go_enter Tryz.func65, Tryz.ntmps65
 go_upto_region 1 with fail
 change Code.wp _ _ _ _ (w.alloc (.cells #[.int .i64 k, .string t, .int .i64 n, .int .i64 gt, .slice A m c, .int .i64 x, .int .i64 y] 92))
 rw [← HW.out, ← Hg.out]
 go_wp2_with fail
 refine (HWd.out _).mono ?_
 rintro e wq ⟨rfl, hwq⟩
 rw [hwq]
 clear hwq
 by_cases e1 : k = 1
 case pos =>
  have d1 : (k == 1) = true := by simp; omega
  have HF := hide (show l ++ opT ⟨k, t, n, gt, ar, x, y⟩ = l ++ lineT [wordT k, quoteT t.data.toList] by rw [HE.out, if_pos e1])
  have HK := hide (And.intro e1 trivial)
  clear HE e1
  go_wp2_with fail
  refine HQu.out.mono ?_
  rintro e V5 ⟨rfl, hb9⟩
  have HO5 := hide (HO4.out.far hb9)
  have HG5 := hide (HG4.out.below hb9)
  clear hb9
  go_wp2_with fail
  obtain ⟨V6, hV9⟩ : ∃ V9, V9 = V5.alloc (.cells (([wordT k, quoteT t.data.toList].map strV).toArray) 9) := ⟨_, rfl⟩
  obtain ⟨g6, hg9⟩ : ∃ g9, g9 = V5.heap.size := ⟨_, rfl⟩
  have HO6 := hide (show Bo B b (l) w V6 by rw [hV9]; exact HO5.out.alloc _)
  have HN6 := hide (show Blk V6 g6 9 ([wordT k, quoteT t.data.toList].map strV).toArray by rw [hV9, hg9]; exact Blk.new _ _ _)
  have hV8 : V6 = V5.alloc (.cells #[.string ⟨(wordT k).toArray⟩, .string ⟨(quoteT t.data.toList).toArray⟩] 9) := hV9
  try rw [← tkT_eq] at hV8
  have HG6 := hide (show Blk V6 g 92 #[.int .i64 k, .string t, .int .i64 n, .int .i64 gt, .slice A m c, .int .i64 x, .int .i64 y] by rw [hV9]; exact HG5.out.alloc _)
  erw [← hV8]
  rw [← hg9]
  clear hV8 hV9 hg9
  refine (HLn.out g6 (l) [wordT k, quoteT t.data.toList] _ HO6.out.1 HN6.out (by simp) (by have := HL1.out; omega)).mono ?_
  rintro e V7 ⟨rfl, hq9⟩
  have HO7 := hide (HO6.out.trans hq9)
  have HG7 := hide (HO6.out.blk hq9 HG6.out (by decide) (by decide))
  clear hq9 HN6
  go_wp2_with fail
  go_end0
  exact ⟨rfl, by rw [HF.out]; exact HO7.out⟩
 case neg =>
  by_cases e2 : k = 2
  case pos =>
   have d1 : (k == 1) = false := by simp; omega
   have d2 : (k == 2) = true := by simp; omega
   have HF := hide (show l ++ opT ⟨k, t, n, gt, ar, x, y⟩ = l ++ expectT ⟨k, t, n, gt, ar, x, y⟩ by rw [HE.out, if_neg e1, if_pos e2])
   have HK := hide (And.intro e2 trivial)
   clear HE e1 e2
   go_wp2_with fail
   refine HX.out.mono ?_
   rintro e V5 ⟨rfl, hq9⟩
   have HO5 := hide (HO4.out.trans hq9)
   clear hq9
   go_wp2_with fail
   go_end0
   exact ⟨rfl, by rw [HF.out]; exact HO5.out⟩
  case neg =>
   by_cases e3 : k = 3
   case pos =>
    have d1 : (k == 1) = false := by simp; omega
    have d2 : (k == 2) = false := by simp; omega
    have d3 : (k == 3) = true := by simp; omega
    have HF := hide (show l ++ opT ⟨k, t, n, gt, ar, x, y⟩ = l ++ lineT [wordT k, labelT gt] by rw [HE.out, if_neg e1, if_neg e2, if_pos e3])
    have HK := hide (And.intro e3 trivial)
    clear HE e1 e2 e3
    go_wp2_with fail
    refine HLb.out.mono ?_
    rintro e V5 ⟨rfl, hb9⟩
    have HO5 := hide (HO4.out.far hb9)
    have HG5 := hide (HG4.out.below hb9)
    clear hb9
    go_wp2_with fail
    obtain ⟨V6, hV9⟩ : ∃ V9, V9 = V5.alloc (.cells (([wordT k, labelT gt].map strV).toArray) 9) := ⟨_, rfl⟩
    obtain ⟨g6, hg9⟩ : ∃ g9, g9 = V5.heap.size := ⟨_, rfl⟩
    have HO6 := hide (show Bo B b (l) w V6 by rw [hV9]; exact HO5.out.alloc _)
    have HN6 := hide (show Blk V6 g6 9 ([wordT k, labelT gt].map strV).toArray by rw [hV9, hg9]; exact Blk.new _ _ _)
    have hV8 : V6 = V5.alloc (.cells #[.string ⟨(wordT k).toArray⟩, .string ⟨(labelT gt).toArray⟩] 9) := hV9
    try rw [← tkT_eq] at hV8
    have HG6 := hide (show Blk V6 g 92 #[.int .i64 k, .string t, .int .i64 n, .int .i64 gt, .slice A m c, .int .i64 x, .int .i64 y] by rw [hV9]; exact HG5.out.alloc _)
    erw [← hV8]
    rw [← hg9]
    clear hV8 hV9 hg9
    refine (HLn.out g6 (l) [wordT k, labelT gt] _ HO6.out.1 HN6.out (by simp) (by have := HL3.out; omega)).mono ?_
    rintro e V7 ⟨rfl, hq9⟩
    have HO7 := hide (HO6.out.trans hq9)
    have HG7 := hide (HO6.out.blk hq9 HG6.out (by decide) (by decide))
    clear hq9 HN6
    go_wp2_with fail
    go_end0
    exact ⟨rfl, by rw [HF.out]; exact HO7.out⟩
   case neg =>
    by_cases e4 : k = 4
    case pos =>
     have d1 : (k == 1) = false := by simp; omega
     have d2 : (k == 2) = false := by simp; omega
     have d3 : (k == 3) = false := by simp; omega
     have d4 : (k == 4) = true := by simp; omega
     have HF := hide (show l ++ opT ⟨k, t, n, gt, ar, x, y⟩ = l ++ lineT [wordT k, tkT n] by rw [HE.out, if_neg e1, if_neg e2, if_neg e3, if_pos e4])
     have HK := hide (And.intro e4 trivial)
     clear HE e1 e2 e3 e4
     go_wp2_with fail
     refine HTk.out.mono ?_
     rintro e V5 ⟨rfl, hb9⟩
     have HO5 := hide (HO4.out.far hb9)
     have HG5 := hide (HG4.out.below hb9)
     clear hb9
     go_wp2_with fail
     obtain ⟨V6, hV9⟩ : ∃ V9, V9 = V5.alloc (.cells (([wordT k, tkT n].map strV).toArray) 9) := ⟨_, rfl⟩
     obtain ⟨g6, hg9⟩ : ∃ g9, g9 = V5.heap.size := ⟨_, rfl⟩
     have HO6 := hide (show Bo B b (l) w V6 by rw [hV9]; exact HO5.out.alloc _)
     have HN6 := hide (show Blk V6 g6 9 ([wordT k, tkT n].map strV).toArray by rw [hV9, hg9]; exact Blk.new _ _ _)
     have hV8 : V6 = V5.alloc (.cells #[.string ⟨(wordT k).toArray⟩, .string ⟨(tkT n).toArray⟩] 9) := hV9
     try rw [← tkT_eq] at hV8
     have HG6 := hide (show Blk V6 g 92 #[.int .i64 k, .string t, .int .i64 n, .int .i64 gt, .slice A m c, .int .i64 x, .int .i64 y] by rw [hV9]; exact HG5.out.alloc _)
     erw [← hV8]
     rw [← hg9]
     clear hV8 hV9 hg9
     refine (HLn.out g6 (l) [wordT k, tkT n] _ HO6.out.1 HN6.out (by simp) (by have := HL4.out; omega)).mono ?_
     rintro e V7 ⟨rfl, hq9⟩
     have HO7 := hide (HO6.out.trans hq9)
     have HG7 := hide (HO6.out.blk hq9 HG6.out (by decide) (by decide))
     clear hq9 HN6
     go_wp2_with fail
     go_end0
     exact ⟨rfl, by rw [HF.out]; exact HO7.out⟩
    case neg =>
     have d1 : (k == 1) = false := by simp; omega
     have d2 : (k == 2) = false := by simp; omega
     have d3 : (k == 3) = false := by simp; omega
     have d4 : (k == 4) = false := by simp; omega
     have HF := hide (show l ++ opT ⟨k, t, n, gt, ar, x, y⟩ = l ++ lineT [wordT k] by rw [HE.out, if_neg e1, if_neg e2, if_neg e3, if_neg e4])
     have HK := hide (And.intro e4 trivial)
     clear HE e1 e2 e3 e4
     go_wp2_with fail
     obtain ⟨V6, hV9⟩ : ∃ V9, V9 = V4.alloc (.cells (([wordT k].map strV).toArray) 9) := ⟨_, rfl⟩
     obtain ⟨g6, hg9⟩ : ∃ g9, g9 = V4.heap.size := ⟨_, rfl⟩
     have HO6 := hide (show Bo B b (l) w V6 by rw [hV9]; exact HO4.out.alloc _)
     have HN6 := hide (show Blk V6 g6 9 ([wordT k].map strV).toArray by rw [hV9, hg9]; exact Blk.new _ _ _)
     have hV8 : V6 = V4.alloc (.cells #[.string ⟨(wordT k).toArray⟩] 9) := hV9
     try rw [← tkT_eq] at hV8
     have HG6 := hide (show Blk V6 g 92 #[.int .i64 k, .string t, .int .i64 n, .int .i64 gt, .slice A m c, .int .i64 x, .int .i64 y] by rw [hV9]; exact HG4.out.alloc _)
     erw [← hV8]
     rw [← hg9]
     clear hV8 hV9 hg9
     refine (HLn.out g6 (l) [wordT k] _ HO6.out.1 HN6.out (by simp) (by have := HL0.out; omega)).mono ?_
     rintro e V7 ⟨rfl, hq9⟩
     have HO7 := hide (HO6.out.trans hq9)
     have HG7 := hide (HO6.out.blk hq9 HG6.out (by decide) (by decide))
     clear hq9 HN6
     go_wp2_with fail
     go_end0
     exact ⟨rfl, by rw [HF.out]; exact HO7.out⟩
section
variable {α : Type}
/-- the place of the first one of which p holds -/
def idxG (p : α → Bool) (l : List α) : Int := if l.any p = true then (l.findIdx p : Int) else -1
theorem idxG_at (p : α → Bool) (l : List α) (k : Nat) (x : α) (hx : l[k]? = some x) (h : ∀ y ∈ l.take k, p y = false) (hp : p x = true) : idxG p l = k := by
 obtain ⟨hk, e⟩ := List.getElem?_eq_some_iff.1 hx
 unfold idxG
 have ha : l.any p = true := List.any_eq_true.2 ⟨x, List.mem_of_getElem? hx, hp⟩
 rw [if_pos ha]
 have : l.findIdx p = k := by
  rw [List.findIdx_eq hk]
  refine ⟨by rw [e]; exact hp, fun j hj => ?_⟩
  exact h _ (by rw [List.mem_take_iff_getElem]; exact ⟨j, by omega, rfl⟩)
 rw [this]
theorem idxG_none (p : α → Bool) (l : List α) (h : ∀ y ∈ l, p y = false) : idxG p l = -1 := by
 unfold idxG
 rw [if_neg]
 rw [List.any_eq_true]
 rintro ⟨x, hx, ho⟩
 rw [h x hx] at ho
 cases ho
theorem idxG_or (p : α → Bool) (l : List α) : (idxG p l = -1 ∧ ∀ y ∈ l, p y = false) ∨ ∃ k, k < l.length ∧ idxG p l = k ∧ ∀ y ∈ l.take k, p y = false := by
 by_cases ha : l.any p = true
 ·right
  have hlt : l.findIdx p < l.length := List.findIdx_lt_length.2 (by simpa using List.any_eq_true.1 ha)
  refine ⟨l.findIdx p, hlt, by unfold idxG; rw [if_pos ha], fun y hy => ?_⟩
  obtain ⟨j, hj, rfl⟩ := List.mem_take_iff_getElem.1 hy
  have := List.not_of_lt_findIdx (p := p) (xs := l) (i := j) (by omega)
  simpa using this
 ·left
  have h : ∀ y ∈ l, p y = false := by
   intro y hy
   cases hp : p y with
   | false => rfl
   | true => exact absurd (List.any_eq_true.2 ⟨y, hy, hp⟩) ha
  exact ⟨idxG_none p l h, h⟩
def keepL (p : α → Bool) (l : List α) : List α := l.filter (fun x => !p x)
theorem keep_none {p : α → Bool} {l : List α} (h : ∀ y ∈ l, p y = false) : keepL p l = l := by
 unfold keepL
 rw [List.filter_eq_self]
 intro y hy
 rw [h y hy]; rfl
theorem keep_succ (p : α → Bool) (l : List α) (k : Nat) (x : α) (hx : l[k]? = some x) : keepL p (l.take (k + 1)) = keepL p (l.take k) ++ (if p x = true then [] else [x]) := by
 have e : l.take (k + 1) = l.take k ++ [x] := by rw [List.take_add_one, hx]; rfl
 rw [e]
 unfold keepL
 rw [List.filter_append]
 cases hp : p x <;> simp [hp]
theorem keep_le (p : α → Bool) (l : List α) : (keepL p l).length ≤ l.length := List.length_filter_le _ _
end
theorem frozen_of_block {w w' : World} {g t : Nat} (h : w'.heap[g]? = w.heap[g]?) : w'.frozen? ⟨g, t, none⟩ = w.frozen? ⟨g, t, none⟩ := by
 simp only [World.frozen?, h]
theorem only_setCells (g : Nat) : ∀ (vs : List Value) (o : Nat) (w : World), Only (· = g) w (w.setCells g o vs)
 | [], _, _ => Only.refl _ _
 | v :: r, o, w => ((Only.refl (· = g) w).setCell (Or.inl rfl) v).trans (only_setCells g r (o + 1) _)
theorem frozen_setCells (g t : Nat) : ∀ (vs : List Value) (o : Nat) (w : World), (w.setCells g o vs).frozen? ⟨g, t, none⟩ = w.frozen? ⟨g, t, none⟩
 | [], _, _ => rfl
 | v :: r, o, w => by
  rw [World.setCells, frozen_setCells g t r (o + 1)]
  simp [World.frozen?, World.setCell, Array.getElem?_modify]
  cases w.heap[g]? with
  | none => rfl
  | some ob => cases ob <;> rfl
theorem cell_out {w : World} {g o t : Nat} {vs : List Value} (h : t < o ∨ o + vs.length ≤ t) : (w.setCells g o vs).cell? ⟨g, t, none⟩ = w.cell? ⟨g, t, none⟩ := World.cell?_setCells_out g vs o w ⟨g, t, none⟩ (fun _ _ => h)
/-- a row under way: the first k kept ones K, from q on as it was (L) -/
structure DelAt {α : Type} (enc : α → List Value) (nc : Nat) (w : World) (g n k q : Nat) (K L : List α) : Prop where
 lo : ∀ t, t < k * nc → w.cell? ⟨g, t, none⟩ = (flat enc K)[t]?
 hi : ∀ t, q * nc ≤ t → t < n * nc → w.cell? ⟨g, t, none⟩ = (flat enc L)[t]?
 so : ∀ t, t < n * nc → (w.cell? ⟨g, t, none⟩).isSome = true
 fr : ∀ t, w.frozen? ⟨g, t, none⟩ = false
 lt : g < w.heap.size
section
variable {α : Type} {enc : α → List Value} {nc : Nat} {w w' : World} {g n k q : Nat} {K L : List α}
theorem DelAt.only {S : Nat → Prop} (h : DelAt enc nc w g n k q K L) (j : Only S w w') (hs : ¬ S g) : DelAt enc nc w' g n k q K L := by
 have hc : ∀ t, w'.cell? ⟨g, t, none⟩ = w.cell? ⟨g, t, none⟩ := fun t => j.cell (p := ⟨g, t, none⟩) h.lt hs
 exact ⟨fun t ht => (hc t).trans (h.lo t ht), fun t h1 h2 => (hc t).trans (h.hi t h1 h2), fun t ht => by rw [hc]; exact h.so t ht, fun t => (frozen_of_block (j.block g h.lt hs)).trans (h.fr t), Nat.lt_of_lt_of_le h.lt j.size⟩
theorem DelAt.skip (h : DelAt enc nc w g n k q K L) : DelAt enc nc w g n k (q + 1) K L := ⟨h.lo, fun t h1 h2 => h.hi t (by rw [Nat.add_mul] at h1; omega) h2, h.so, h.fr, h.lt⟩
theorem DelAt.at_ (h : DelAt enc nc w g n k q K L) (henc : ∀ a, (enc a).length = nc) (x : α) (hx : L[q]? = some x) (hqn : q < n) (j : Nat) (hj : j < nc) : w.cell? ⟨g, q * nc + j, none⟩ = (enc x)[j]? := by
 have h1 : q * nc + nc ≤ n * nc := by have := Nat.mul_le_mul_right nc (show q + 1 ≤ n by omega); rw [Nat.add_mul] at this; omega
 rw [h.hi _ (by omega) (by omega), flat_at enc nc henc L q j x hx hj]
theorem DelAt.some_ (h : DelAt enc nc w g n k q K L) (hkn : k < n) (j : Nat) (hj : j < nc) : ∃ u, w.cell? ⟨g, k * nc + j, none⟩ = some u := by
 have h1 : k * nc + nc ≤ n * nc := by have := Nat.mul_le_mul_right nc (show k + 1 ≤ n by omega); rw [Nat.add_mul] at this; omega
 exact Option.isSome_iff_exists.1 (h.so (k * nc + j) (by omega))
theorem DelAt.store (h : DelAt enc nc w g n k q K L) (henc : ∀ a, (enc a).length = nc) (hK : K.length = k) (x : α) (hx : L[q]? = some x) (hkq : k < q) (hqn : q < n) : DelAt enc nc (w.setCells g (k * nc) (enc x)) g n (k + 1) (q + 1) (K ++ [x]) L := by
 have h1 : k * nc + nc ≤ q * nc := by have := Nat.mul_le_mul_right nc (show k + 1 ≤ q by omega); rw [Nat.add_mul] at this; omega
 have h2 : q * nc + nc ≤ n * nc := by have := Nat.mul_le_mul_right nc (show q + 1 ≤ n by omega); rw [Nat.add_mul] at this; omega
 have hsome : ∀ j, j < (enc x).length → (w.cell? ⟨g, k * nc + j, none⟩).isSome = true := fun j hj => h.so _ (by rw [henc] at hj; omega)
 have hin : ∀ j (hj : j < (enc x).length), (w.setCells g (k * nc) (enc x)).cell? ⟨g, k * nc + j, none⟩ = some ((enc x)[j]) := World.cell?_setCells_in g (enc x) (k * nc) w hsome
 have hfk : (flat enc K).length = k * nc := by rw [flat_len enc nc henc, hK]
 refine ⟨fun t ht => ?_, fun t h3 h4 => ?_, fun t ht => ?_, fun t => by rw [frozen_setCells]; exact h.fr t, by have := (only_setCells g (enc x) (k * nc) w).size; have := h.lt; omega⟩
 ·have e : flat enc (K ++ [x]) = flat enc K ++ enc x := by simp [flat]
  rw [e]
  by_cases htk : t < k * nc
  ·rw [cell_out (Or.inl htk), h.lo t htk, List.getElem?_append_left (by omega)]
  ·have : t < k * nc + nc := by rw [Nat.add_mul] at ht; omega
   obtain ⟨j, rfl⟩ : ∃ j, t = k * nc + j := ⟨t - k * nc, by omega⟩
   rw [hin j (by rw [henc]; omega), List.getElem?_append_right (by omega), hfk, show k * nc + j - k * nc = j by omega, List.getElem?_eq_getElem]
 ·rw [cell_out (Or.inr (by rw [henc]; rw [Nat.add_mul] at h3; omega))]
  exact h.hi t (by rw [Nat.add_mul] at h3; omega) h4
 ·by_cases hj : k * nc ≤ t ∧ t < k * nc + nc
  ·obtain ⟨j, rfl⟩ : ∃ j, t = k * nc + j := ⟨t - k * nc, by omega⟩
   rw [hin j (by rw [henc]; omega)]; rfl
  ·rw [cell_out (by rw [henc]; omega)]
   exact h.so t ht
theorem DelAt.cleared (h : DelAt enc nc w g n k q K L) (henc : ∀ a, (enc a).length = nc) (hK : K.length = k) (vs : List Value) : Rd (w.setCells g (k * nc) vs) NoBlk (some ⟨g, 0, none⟩) (flat enc K) := by
 refine Or.inr ⟨g, 0, rfl, fun h => h, by have := (only_setCells g vs (k * nc) w).size; have := h.lt; omega, fun j hj => ?_⟩
 rw [flat_len enc nc henc, hK] at hj
 rw [Nat.zero_add, cell_out (Or.inl hj)]
 exact h.lo j hj
theorem del_of_own {base n : Nat} {e : TypeId} {v : Value} (h : w.ownsRow base e nc v n (flat enc L)) (hn : 0 < n) (hL : L.length = n) (henc : ∀ a, (enc a).length = nc) :
 ∃ g c, v = .slice (some ⟨g, 0, none⟩) n c ∧ base ≤ g ∧ n ≤ c ∧ c ≤ maxLen ∧ ∀ k q, k ≤ q → k ≤ n → DelAt enc nc w g n k q (L.take k) L := by
 obtain ⟨hl, h2⟩ := h
 rcases h2 with ⟨hv, h0⟩ | ⟨g, cap, cur, hv, hb, hh, hnc, hcm, hsz, htk⟩
 ·omega
 ·have hbk : Blk w g e cur := hh
  have hall : ∀ t, t < n * nc → w.cell? ⟨g, t, none⟩ = (flat enc L)[t]? := by
   intro t ht
   rw [hbk.cell, ← htk, List.getElem?_take, if_pos ht]
   simp
  refine ⟨g, cap, hv, hb, hnc, hcm, fun k q hkq hkn => ⟨fun t ht => ?_, fun t _ ht => hall t ht, fun t ht => ?_, fun t => hbk.frozen t, hbk.lt⟩⟩
  ·have hkn2 : k * nc ≤ n * nc := Nat.mul_le_mul_right nc hkn
   rw [hall t (by omega)]
   have e : flat enc L = flat enc (L.take k) ++ flat enc (L.drop k) := by rw [← flat_append, List.take_append_drop]
   rw [e, List.getElem?_append_left (by rw [flat_len enc nc henc, List.length_take]; rw [Nat.min_eq_left (by omega)]; exact ht)]
  ·rw [hall t ht, List.getElem?_eq_getElem (by rw [flat_len enc nc henc, hL]; exact ht)]
   rfl
end
/-- 'clear' on a row of n > 0 elements of several cells each -/
theorem run_clear_rows {P : Program} (w : World) (t e : TypeId) (z : Value) (zs : List Value) (ht : P.underlying t = some (.slice e)) (hv : ∀ w, (zeroValue e).run P w = .ok z w) (hz : z.cells = zs.toArray) (h0 : 0 < zs.length) (h1 : ∀ u ∈ zs, u.oneCell' = true) (b o n c : Nat) (hn : 0 < n)
 (hc : ∀ j, j < n * zs.length → (w.cell? ⟨b, o + j, none⟩).isSome = true) (hf : ∀ j, j < n * zs.length → w.frozen? ⟨b, o + j, none⟩ = false) :
 ∃ vs, ∀ ty, (Builtin.clear_ #[t] ty #[.slice (some ⟨b, o, none⟩) n c]).run P w = .ok (.tuple #[]) (w.setCells b o vs) := by
 refine ⟨(Builtin.zeroCells z.cells n).toList, fun ty => ?_⟩
 have hlen : (Builtin.zeroCells z.cells n).toList.length = n * zs.length := by rw [hz]; simp [Builtin.zeroCells]
 have hst := Go.run_storeCells_cells (P := P) b o (Builtin.zeroCells z.cells n).toList 0 w (by intro j hj; rw [hlen] at hj; rw [Nat.add_zero]; exact hc j hj) (by intro j hj; rw [hlen] at hj; rw [Nat.add_zero]; exact hf j hj) (by
  intro v hv'
  rw [hz] at hv'
  simp [Builtin.zeroCells] at hv'
  obtain ⟨i, hi, rfl⟩ := hv'
  have hlt : i % zs.length < zs.length := Nat.mod_lt _ h0
  rw [List.getElem?_eq_getElem hlt]
  exact h1 _ (List.getElem_mem hlt))
 simp only [Nat.add_zero] at hst
 obtain ⟨m, rfl⟩ : ∃ m, n = m + 1 := ⟨n - 1, by omega⟩
 simp [Builtin.clear_, run_underlying ht, hv, hst]
/-- where an op leads by what was done -/
def leadsM (o : OpM) (x : Stp) : Int :=
 if (o.kind = 1 ∧ x.what = 6) ∨ (o.kind = 4 ∧ x.what = 8) then x.at_ + 1 else if o.kind = 3 ∧ x.what = 7 then o.to else if o.kind ≠ 2 then -1
 else if x.what = 2 then (if 0 ≤ x.arm ∧ x.arm < o.arms.length then (armAt o.arms x.arm.toNat).to else -1) else if x.what = 3 then o.onT else if x.what = 4 then o.onE else -1
def opM0 : OpM := ⟨0, ⟨#[]⟩, 0, 0, [], 0, 0⟩
def nextM (p : ProgM) (x : Stp) : Int := if x.status ≠ 0 ∨ x.at_ < 0 ∨ (p.ops.length : Int) ≤ x.at_ then -1 else leadsM (p.ops.getD x.at_.toNat opM0) x
def NextM (p : ProgM) (x : Stp) : Int := if goodM p = true then nextM p x else -1
theorem Blk.six {w : World} {g : Nat} {t : TypeId} {a b c d e f : Value} (hb : Blk w g t #[a, b, c, d, e, f]) :
 w.cell? ⟨g, 0, none⟩ = some a ∧ w.cell? ⟨g, 1, none⟩ = some b ∧ w.cell? ⟨g, 2, none⟩ = some c ∧ w.cell? ⟨g, 3, none⟩ = some d ∧ w.cell? ⟨g, 4, none⟩ = some e ∧ w.cell? ⟨g, 5, none⟩ = some f := by
 refine ⟨?_, ?_, ?_, ?_, ?_, ?_⟩ <;> (rw [hb.cell]; rfl)
end Go.Proofs.YtaioaojfdngfdaaGreatDoor
namespace Go.Proofs.YtaioaojfdngfdaaGreatDoor
theorem firstAt_a : ∀ (l : List Int) (i : Nat), (firstAt i l).2 = 0 → ∀ e ∈ l, e = 0 := by
 intro l
 induction l with
 | nil => intro i _ e he; cases he
 | cons a r ih =>
  intro i h e he
  unfold firstAt at h
  by_cases ha : a = 0
  ·rw [if_neg (by omega)] at h
   rcases List.mem_cons.1 he with rfl | he
   ·exact ha
   ·exact ih _ h e he
  ·rw [if_pos ha] at h
   exact absurd h ha
theorem firstE_a : ∀ (l : List Int), firstE l = 0 → ∀ e ∈ l, e = 0 := by
 intro l
 induction l with
 | nil => intro _ e he; cases he
 | cons a r ih =>
  intro h e he
  unfold firstE at h
  by_cases ha : a = 0
  ·rw [if_neg (by omega)] at h
   rcases List.mem_cons.1 he with rfl | he
   ·exact ha
   ·exact ih h e he
  ·rw [if_pos ha] at h
   exact absurd h ha
theorem good_op {p : ProgM} (h : goodM p = true) (o : OpM) (ho : o ∈ p.ops) : opE p.ops.length o = 0 := by
 unfold goodM at h
 rw [decide_eq_true_eq] at h
 unfold wrongM at h
 by_cases hh : headE p = 0
 ·rw [if_neg (by omega)] at h
  exact firstAt_a _ _ h _ (List.mem_map.2 ⟨o, ho, rfl⟩)
 ·rw [if_pos hh] at h
  exact absurd h hh
theorem leads_comes (n : Nat) (o : OpM) (x : Stp) (h : opE n o = 0) (h0 : 0 ≤ x.at_) (h1 : x.at_ < n) : leadsM o x = -1 ∨ comesB n (leadsM o x) = true := by
 unfold leadsM
 split
 ·right
  unfold comesB
  simp; omega
 ·split
  ·rename_i hk
   right
   unfold opE at h
   rw [if_neg (by omega)] at h
   split at h
   ·omega
   ·rw [if_neg (by omega), if_neg (by omega), if_pos hk.1] at h
    split at h
    ·assumption
    ·omega
  ·split
   ·exact Or.inl rfl
   ·rename_i hk
    have hk2 : o.kind = 2 := by omega
    unfold opE at h
    rw [if_neg (by omega)] at h
    split at h
    ·omega
    ·have h : expectE n o = 0 := by
      first
       | exact h
       | (rw [if_neg (by omega), if_pos hk2] at h; exact h)
       | (rw [if_pos hk2] at h; exact h)
       | (rw [if_neg (by omega)] at h; exact h)
     unfold expectE at h
     split at h
     ·omega
     ·split at h
      ·omega
      ·split at h
       ·contradiction
       ·rename_i hE
        have hE' : firstE (o.arms.map (armE n)) = 0 := Decidable.not_not.1 hE
        split at h
        ·rename_i ht
         rw [Bool.and_eq_true] at ht
         unfold toB at ht
         rw [Bool.or_eq_true, Bool.or_eq_true, decide_eq_true_eq, decide_eq_true_eq] at ht
         split
         ·split
          ·rename_i hr
           right
           have hm : armAt o.arms x.arm.toNat ∈ o.arms := by
            have hlt : x.arm.toNat < o.arms.length := by omega
            have e : armAt o.arms x.arm.toNat = o.arms[x.arm.toNat] := by simp [armAt, List.getD, hlt]
            rw [e]
            exact List.getElem_mem hlt
           have ha := firstE_a _ hE' _ (List.mem_map.2 ⟨_, hm, rfl⟩)
           unfold armE at ha
           split at ha
           ·omega
           ·split at ha
            ·contradiction
            ·split at ha
             ·assumption
             ·omega
          ·exact Or.inl rfl
         ·split
          ·exact ht.1
          ·split
           ·exact ht.2
           ·exact Or.inl rfl
        ·omega
theorem next_comes (p : ProgM) (x : Stp) : NextM p x = -1 ∨ comesB p.ops.length (NextM p x) = true := by
 unfold NextM
 split
 ·rename_i hg
  unfold nextM
  split
  ·exact Or.inl rfl
  ·rename_i hn
   have hlt : x.at_.toNat < p.ops.length := by omega
   refine leads_comes _ _ x (good_op hg _ ?_) (by omega) (by omega)
   have e : p.ops.getD x.at_.toNat opM0 = p.ops[x.at_.toNat] := by simp [List.getD, hlt]
   rw [e]
   exact List.getElem_mem hlt
 ·exact Or.inl rfl
theorem cutS_twice (s : ByteArray) (m : Nat) : cutS (cutS s m) m = cutS s m := by
 have h : ¬ m < (cutS s m).size := by rw [cutS_size]; omega
 show (if m < (cutS s m).size then (cutS s m).extract 0 m else cutS s m) = cutS s m
 rw [if_neg h]
theorem fewArms_idem (l : List ArmM) (k : Nat) : fewArms (fewArms l k) k = fewArms l k := by
 unfold fewArms
 rw [← List.map_take, List.take_take, Nat.min_self, List.map_map]
 apply List.map_congr_left
 intro a _
 show fewArm (fewArm a) = fewArm a
 unfold fewArm
 simp only [cutS_twice]
theorem fewOp_idem (o : OpM) : fewOp (fewOp o) = fewOp o := by
 unfold fewOp
 simp only [cutS_twice, fewArms_idem]
theorem fewOps_idem {L L' : List OpV} {N : Nat} (h : L'.map (·.o) = fewOps L N) : fewOps L' N = L'.map (·.o) := by
 have e : ∀ X : List OpV, fewOps X N = ((X.map (·.o)).take N).map fewOp := by
  intro X
  unfold fewOps
  rw [← List.map_take, List.map_map]
  rfl
 rw [e L', h, e L, ← List.map_take, List.take_take, Nat.min_self, List.map_map]
 apply List.map_congr_left
 intro a _
 exact fewOp_idem a
theorem few_sz {L L' : List OpV} {N : Nat} (h : L'.map (·.o) = fewOps L N) (hz : ∀ v ∈ L, OpSz v) : ∀ v ∈ L', OpSz v := by
 intro v hv
 have hm : v.o ∈ fewOps L N := by rw [← h]; exact List.mem_map.2 ⟨v, hv, rfl⟩
 unfold fewOps at hm
 obtain ⟨u, hu, he⟩ := List.mem_map.1 hm
 have hu' := hz u (List.mem_of_mem_take hu)
 obtain ⟨h1, h2, h3⟩ := hu'
 unfold OpSz
 rw [← he]
 refine ⟨?_, ?_, ?_⟩
 ·show (cutS u.o.text 300).size ≤ _
  rw [cutS_size]; omega
 ·show (fewArms u.o.arms 10).length ≤ maxLen
  unfold fewArms
  rw [List.length_map, List.length_take]
  exact Nat.le_trans (Nat.min_le_right _ _) h2
 ·intro a ha
  have ha' : a ∈ fewArms u.o.arms 10 := ha
  unfold fewArms at ha'
  obtain ⟨b, hb, rfl⟩ := List.mem_map.1 ha'
  show (cutS b.pat 70).size ≤ _
  rw [cutS_size]
  have := h3 b (List.mem_of_mem_take hb)
  omega
theorem few_len {L L' : List OpV} {N : Nat} (h : L'.map (·.o) = fewOps L N) : L'.length ≤ L.length := by
 have := congrArg List.length h
 unfold fewOps at this
 rw [List.length_map, List.length_map, List.length_take] at this
 omega
end Go.Proofs.YtaioaojfdngfdaaGreatDoor
namespace Go.Proofs.YtaioaojfdngfdaaGreatDoor
open Go.RowKit Go.Sort
end Go.Proofs.YtaioaojfdngfdaaGreatDoor
