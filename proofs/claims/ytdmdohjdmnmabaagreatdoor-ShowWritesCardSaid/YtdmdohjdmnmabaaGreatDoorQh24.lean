/- The lines of an op, by the program. Conditions: those of each theorem. -/
import Derived.Test.YtdmdohjdmnmabaaGreatDoorQh23
namespace Go.Proofs.YtdmdohjdmnmabaaGreatDoor
open Go.RowKit
set_option linter.unusedVariables false
set_option linter.unusedSimpArgs false

set_option maxRecDepth 100000 in
set_option maxHeartbeats 12800000 in
theorem sOp_c (B b : Nat) (l : List UInt8) (k : Int) (t : ByteArray) (n gt : Int) (A : Option Addr) (ar : List ArmM) (c : Nat) (x y : Int) (w : World) (h : BlAt B b l w) (hb0 : b < w.heap.size) (hr : ∀ w', Below B w w' → Rd w' NoBlk A (flat encArm ar)) (ht : ∀ w', Below B w w' → Tab w') (hz : OpW ⟨k, t, n, gt, ar, x, y⟩) (hlen : l.length ≤ 70000000000000) :
 Calls Tryz.prog 31 #[.pointer (some ⟨b, 0, none⟩), .agg #[.int .i64 k, .string t, .int .i64 n, .int .i64 gt, .slice A ar.length c, .int .i64 x, .int .i64 y]] w fun e w' => e = .returned (.tuple #[]) ∧ Bo B b (l ++ opT ⟨k, t, n, gt, ar, x, y⟩) w w' := by
 obtain ⟨m, hm⟩ : ∃ m, m = ar.length := ⟨_, rfl⟩
 obtain ⟨V4, hW⟩ : ∃ W, W = w.alloc (.cells #[.int .i64 k, .string t, .int .i64 n, .int .i64 gt, .slice A ar.length c, .int .i64 x, .int .i64 y] 37) := ⟨_, rfl⟩
 obtain ⟨g, hg⟩ : ∃ g, g = w.heap.size := ⟨_, rfl⟩
 have HO4 := hide (show Bo B b l w V4 by rw [hW]; exact (Bo.refl h).alloc _)
 have HG4 := hide (show Blk V4 g 37 #[.int .i64 k, .string t, .int .i64 n, .int .i64 gt, .slice A ar.length c, .int .i64 x, .int .i64 y] by rw [hW, hg]; exact Blk.new _ _ _)
 have hsz : b < V4.heap.size := by rw [hW]; simp; omega
 have HX := hide (sExpect_c B b l k t n gt A ar c x y V4 HO4.out.1 hsz (fun w' q => hr w' (HO4.out.2.1.trans q)) (fun w' q => ht w' (HO4.out.2.1.trans q)) hz hlen)
 rw [← hm] at hW HG4 HX ⊢
 have HWd := hide (fun (w' : World) => Word_c k w')
 have HTk := hide (Text_c n V4 hz.n.2 (ht V4 HO4.out.2.1))
 have HLb := hide (label_c gt V4 hz.go.1 hz.go.2 (ht V4 HO4.out.2.1))
 have HQu := hide (Quote_c t V4 (by have := hz.text; simp only at this; omega))
 have h2 := word_len k
 have h3 : (tkT n).length ≤ 21 := tk_len hz.n.2
 have h6 : (labelT gt).length ≤ 22 := label_len hz.go.1 hz.go.2
 have h7 := quote_len t.data.toList
 have h8 : t.data.toList.length = t.size := by simp
 have h9 := hz.text
 simp only at h9
 have e1 := line2_len (wordT k) (quoteT t.data.toList)
 have e3 := line2_len (wordT k) (labelT gt)
 have e4 := line2_len (wordT k) (tkT n)
 have e5 : (lineT [wordT k]).length = (wordT k).length + 1 := by unfold lineT wordsT; simp
 have HL1 := hide (show (lineT [wordT k, quoteT t.data.toList]).length ≤ 500000 by omega)
 have HL3 := hide (show (lineT [wordT k, labelT gt]).length ≤ 40 by omega)
 have HL4 := hide (show (lineT [wordT k, tkT n]).length ≤ 40 by omega)
 have HL0 := hide (show (lineT [wordT k]).length ≤ 40 by omega)
 have HLn := hide (fun (g : Nat) (l : List UInt8) (ws : List (List UInt8)) (w' : World) (h : BlAt B b l w') (hg : Blk w' g 9 (ws.map strV).toArray) (hn : ws.length ≤ 8) (hlen : l.length + (lineT ws).length ≤ 140737488355328) => line_c B b g l ws w' h hg hn hlen)
 have HE := hide (show opT ⟨k, t, n, gt, ar, x, y⟩ = if k = 1 then lineT [wordT k, quoteT t.data.toList] else if k = 2 then expectT ⟨k, t, n, gt, ar, x, y⟩ else if k = 3 then lineT [wordT k, labelT gt] else if k = 4 then lineT [wordT k, tkT n] else lineT [wordT k] from rfl)
 have HW := hide hW
 have Hg := hide hg
 have c0 : V4.cell? ⟨g, 0, none⟩ = some (.int .i64 k) := by rw [HG4.out.cell]; rfl
 have c1 : V4.cell? ⟨g, 1, none⟩ = some (.string t) := by rw [HG4.out.cell]; rfl
 have c2 : V4.cell? ⟨g, 2, none⟩ = some (.int .i64 n) := by rw [HG4.out.cell]; rfl
 have c3 : V4.cell? ⟨g, 3, none⟩ = some (.int .i64 gt) := by rw [HG4.out.cell]; rfl
 have c4 : V4.cell? ⟨g, 4, none⟩ = some (.slice A m c) := by rw [HG4.out.cell]; rfl
 have c5 : V4.cell? ⟨g, 5, none⟩ = some (.int .i64 x) := by rw [HG4.out.cell]; rfl
 have c6 : V4.cell? ⟨g, 6, none⟩ = some (.int .i64 y) := by rw [HG4.out.cell]; rfl
 clear h hr ht hz hm hW hg h2 h3 h6 h7 h8 h9 e1 e3 e4 e5 hsz
 go_enter Tryz.func31, Tryz.ntmps31
 go_upto_region 1 with fail
 change Code.wp _ _ _ _ (w.alloc (.cells #[.int .i64 k, .string t, .int .i64 n, .int .i64 gt, .slice A m c, .int .i64 x, .int .i64 y] 37))
 rw [← HW.out, ← Hg.out]
 go_wp2_with fail
 refine (HWd.out _).mono ?_
 rintro e wq ⟨rfl, hwq⟩
 rw [hwq]
 clear hwq
 by_cases e1 : k = 1
 case pos =>
  have d1 : (k == 1) = true := by simp; omega
  have HF := hide (show l ++ opT ⟨k, t, n, gt, ar, x, y⟩ = l ++ lineT [wordT k, quoteT t.data.toList] by rw [HE.out, if_pos e1])
  have HK := hide (And.intro e1 trivial)
  clear HE e1
  go_wp2_with fail
  refine HQu.out.mono ?_
  rintro e V5 ⟨rfl, hb9⟩
  have HO5 := hide (HO4.out.far hb9)
  have HG5 := hide (HG4.out.below hb9)
  clear hb9
  go_wp2_with fail
  obtain ⟨V6, hV9⟩ : ∃ V9, V9 = V5.alloc (.cells (([wordT k, quoteT t.data.toList].map strV).toArray) 9) := ⟨_, rfl⟩
  obtain ⟨g6, hg9⟩ : ∃ g9, g9 = V5.heap.size := ⟨_, rfl⟩
  have HO6 := hide (show Bo B b (l) w V6 by rw [hV9]; exact HO5.out.alloc _)
  have HN6 := hide (show Blk V6 g6 9 ([wordT k, quoteT t.data.toList].map strV).toArray by rw [hV9, hg9]; exact Blk.new _ _ _)
  have hV8 : V6 = V5.alloc (.cells #[.string ⟨(wordT k).toArray⟩, .string ⟨(quoteT t.data.toList).toArray⟩] 9) := hV9
  try rw [← tkT_eq] at hV8
  have HG6 := hide (show Blk V6 g 37 #[.int .i64 k, .string t, .int .i64 n, .int .i64 gt, .slice A m c, .int .i64 x, .int .i64 y] by rw [hV9]; exact HG5.out.alloc _)
  erw [← hV8]
  rw [← hg9]
  clear hV8 hV9 hg9
  refine (HLn.out g6 (l) [wordT k, quoteT t.data.toList] _ HO6.out.1 HN6.out (by simp) (by have := HL1.out; omega)).mono ?_
  rintro e V7 ⟨rfl, hq9⟩
  have HO7 := hide (HO6.out.trans hq9)
  have HG7 := hide (HO6.out.blk hq9 HG6.out (by decide) (by decide))
  clear hq9 HN6
  go_wp2_with fail
  go_end0
  exact ⟨rfl, by rw [HF.out]; exact HO7.out⟩
 case neg =>
  by_cases e2 : k = 2
  case pos =>
   have d1 : (k == 1) = false := by simp; omega
   have d2 : (k == 2) = true := by simp; omega
   have HF := hide (show l ++ opT ⟨k, t, n, gt, ar, x, y⟩ = l ++ expectT ⟨k, t, n, gt, ar, x, y⟩ by rw [HE.out, if_neg e1, if_pos e2])
   have HK := hide (And.intro e2 trivial)
   clear HE e1 e2
   go_wp2_with fail
   refine HX.out.mono ?_
   rintro e V5 ⟨rfl, hq9⟩
   have HO5 := hide (HO4.out.trans hq9)
   clear hq9
   go_wp2_with fail
   go_end0
   exact ⟨rfl, by rw [HF.out]; exact HO5.out⟩
  case neg =>
   by_cases e3 : k = 3
   case pos =>
    have d1 : (k == 1) = false := by simp; omega
    have d2 : (k == 2) = false := by simp; omega
    have d3 : (k == 3) = true := by simp; omega
    have HF := hide (show l ++ opT ⟨k, t, n, gt, ar, x, y⟩ = l ++ lineT [wordT k, labelT gt] by rw [HE.out, if_neg e1, if_neg e2, if_pos e3])
    have HK := hide (And.intro e3 trivial)
    clear HE e1 e2 e3
    go_wp2_with fail
    refine HLb.out.mono ?_
    rintro e V5 ⟨rfl, hb9⟩
    have HO5 := hide (HO4.out.far hb9)
    have HG5 := hide (HG4.out.below hb9)
    clear hb9
    go_wp2_with fail
    obtain ⟨V6, hV9⟩ : ∃ V9, V9 = V5.alloc (.cells (([wordT k, labelT gt].map strV).toArray) 9) := ⟨_, rfl⟩
    obtain ⟨g6, hg9⟩ : ∃ g9, g9 = V5.heap.size := ⟨_, rfl⟩
    have HO6 := hide (show Bo B b (l) w V6 by rw [hV9]; exact HO5.out.alloc _)
    have HN6 := hide (show Blk V6 g6 9 ([wordT k, labelT gt].map strV).toArray by rw [hV9, hg9]; exact Blk.new _ _ _)
    have hV8 : V6 = V5.alloc (.cells #[.string ⟨(wordT k).toArray⟩, .string ⟨(labelT gt).toArray⟩] 9) := hV9
    try rw [← tkT_eq] at hV8
    have HG6 := hide (show Blk V6 g 37 #[.int .i64 k, .string t, .int .i64 n, .int .i64 gt, .slice A m c, .int .i64 x, .int .i64 y] by rw [hV9]; exact HG5.out.alloc _)
    erw [← hV8]
    rw [← hg9]
    clear hV8 hV9 hg9
    refine (HLn.out g6 (l) [wordT k, labelT gt] _ HO6.out.1 HN6.out (by simp) (by have := HL3.out; omega)).mono ?_
    rintro e V7 ⟨rfl, hq9⟩
    have HO7 := hide (HO6.out.trans hq9)
    have HG7 := hide (HO6.out.blk hq9 HG6.out (by decide) (by decide))
    clear hq9 HN6
    go_wp2_with fail
    go_end0
    exact ⟨rfl, by rw [HF.out]; exact HO7.out⟩
   case neg =>
    by_cases e4 : k = 4
    case pos =>
     have d1 : (k == 1) = false := by simp; omega
     have d2 : (k == 2) = false := by simp; omega
     have d3 : (k == 3) = false := by simp; omega
     have d4 : (k == 4) = true := by simp; omega
     have HF := hide (show l ++ opT ⟨k, t, n, gt, ar, x, y⟩ = l ++ lineT [wordT k, tkT n] by rw [HE.out, if_neg e1, if_neg e2, if_neg e3, if_pos e4])
     have HK := hide (And.intro e4 trivial)
     clear HE e1 e2 e3 e4
     go_wp2_with fail
     refine HTk.out.mono ?_
     rintro e V5 ⟨rfl, hb9⟩
     have HO5 := hide (HO4.out.far hb9)
     have HG5 := hide (HG4.out.below hb9)
     clear hb9
     go_wp2_with fail
     obtain ⟨V6, hV9⟩ : ∃ V9, V9 = V5.alloc (.cells (([wordT k, tkT n].map strV).toArray) 9) := ⟨_, rfl⟩
     obtain ⟨g6, hg9⟩ : ∃ g9, g9 = V5.heap.size := ⟨_, rfl⟩
     have HO6 := hide (show Bo B b (l) w V6 by rw [hV9]; exact HO5.out.alloc _)
     have HN6 := hide (show Blk V6 g6 9 ([wordT k, tkT n].map strV).toArray by rw [hV9, hg9]; exact Blk.new _ _ _)
     have hV8 : V6 = V5.alloc (.cells #[.string ⟨(wordT k).toArray⟩, .string ⟨(tkT n).toArray⟩] 9) := hV9
     try rw [← tkT_eq] at hV8
     have HG6 := hide (show Blk V6 g 37 #[.int .i64 k, .string t, .int .i64 n, .int .i64 gt, .slice A m c, .int .i64 x, .int .i64 y] by rw [hV9]; exact HG5.out.alloc _)
     erw [← hV8]
     rw [← hg9]
     clear hV8 hV9 hg9
     refine (HLn.out g6 (l) [wordT k, tkT n] _ HO6.out.1 HN6.out (by simp) (by have := HL4.out; omega)).mono ?_
     rintro e V7 ⟨rfl, hq9⟩
     have HO7 := hide (HO6.out.trans hq9)
     have HG7 := hide (HO6.out.blk hq9 HG6.out (by decide) (by decide))
     clear hq9 HN6
     go_wp2_with fail
     go_end0
     exact ⟨rfl, by rw [HF.out]; exact HO7.out⟩
    case neg =>
     have d1 : (k == 1) = false := by simp; omega
     have d2 : (k == 2) = false := by simp; omega
     have d3 : (k == 3) = false := by simp; omega
     have d4 : (k == 4) = false := by simp; omega
     have HF := hide (show l ++ opT ⟨k, t, n, gt, ar, x, y⟩ = l ++ lineT [wordT k] by rw [HE.out, if_neg e1, if_neg e2, if_neg e3, if_neg e4])
     have HK := hide (And.intro e4 trivial)
     clear HE e1 e2 e3 e4
     go_wp2_with fail
     obtain ⟨V6, hV9⟩ : ∃ V9, V9 = V4.alloc (.cells (([wordT k].map strV).toArray) 9) := ⟨_, rfl⟩
     obtain ⟨g6, hg9⟩ : ∃ g9, g9 = V4.heap.size := ⟨_, rfl⟩
     have HO6 := hide (show Bo B b (l) w V6 by rw [hV9]; exact HO4.out.alloc _)
     have HN6 := hide (show Blk V6 g6 9 ([wordT k].map strV).toArray by rw [hV9, hg9]; exact Blk.new _ _ _)
     have hV8 : V6 = V4.alloc (.cells #[.string ⟨(wordT k).toArray⟩] 9) := hV9
     try rw [← tkT_eq] at hV8
     have HG6 := hide (show Blk V6 g 37 #[.int .i64 k, .string t, .int .i64 n, .int .i64 gt, .slice A m c, .int .i64 x, .int .i64 y] by rw [hV9]; exact HG4.out.alloc _)
     erw [← hV8]
     rw [← hg9]
     clear hV8 hV9 hg9
     refine (HLn.out g6 (l) [wordT k] _ HO6.out.1 HN6.out (by simp) (by have := HL0.out; omega)).mono ?_
     rintro e V7 ⟨rfl, hq9⟩
     have HO7 := hide (HO6.out.trans hq9)
     have HG7 := hide (HO6.out.blk hq9 HG6.out (by decide) (by decide))
     clear hq9 HN6
     go_wp2_with fail
     go_end0
     exact ⟨rfl, by rw [HF.out]; exact HO7.out⟩
end Go.Proofs.YtdmdohjdmnmabaaGreatDoor
