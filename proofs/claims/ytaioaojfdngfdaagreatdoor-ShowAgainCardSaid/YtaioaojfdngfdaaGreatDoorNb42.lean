/- The lines of an op that expects, by the program. Conditions: those of each theorem. -/
import Derived.Test.YtaioaojfdngfdaaGreatDoorNb08
import Derived.Test.YtaioaojfdngfdaaGreatDoorNb41
import Derived.Deep.RegionHeld3
set_option linter.unusedVariables false
set_option linter.unusedSimpArgs false
namespace Go.Proofs.YtaioaojfdngfdaaGreatDoor
open Go.RowKit
set_option maxRecDepth 100000 in
set_option maxHeartbeats 25600000 in
theorem sExpect_c (B b : Nat) (l : List UInt8) (k : Int) (t : ByteArray) (n gt : Int) (A : Option Addr) (ar : List ArmM) (c : Nat) (x y : Int) (w : World) (h : BlAt B b l w) (hb0 : b < w.heap.size) (hr : ∀ w', Below B w w' → Rd w' NoBlk A (flat encArm ar)) (ht : ∀ w', Below B w w' → Tab w') (hz : OpW ⟨k, t, n, gt, ar, x, y⟩) (hlen : l.length ≤ 70000000000000) :
 Calls Tryz.prog 106 #[.pointer (some ⟨b, 0, none⟩), .agg #[.int .i64 k, .string t, .int .i64 n, .int .i64 gt, .slice A ar.length c, .int .i64 x, .int .i64 y]] w fun e w' => e = .returned (.tuple #[]) ∧ Bo B b (l ++ expectT ⟨k, t, n, gt, ar, x, y⟩) w w' := by
 obtain ⟨m, hm⟩ : ∃ m, m = ar.length := ⟨_, rfl⟩
 have hma : m ≤ 100 := by rw [hm]; exact hz.arms
 rw [← hm]
 obtain ⟨W, hW⟩ : ∃ W, W = w.alloc (.cells #[.int .i64 k, .string t, .int .i64 n, .int .i64 gt, .slice A m c, .int .i64 x, .int .i64 y] 92) := ⟨_, rfl⟩
 obtain ⟨g, hg⟩ : ∃ g, g = w.heap.size := ⟨_, rfl⟩
 have HO := hide (show Bo B b l w W by rw [hW]; exact (Bo.refl h).alloc _)
 have HG := hide (show Blk W g 92 #[.int .i64 k, .string t, .int .i64 n, .int .i64 gt, .slice A m c, .int .i64 x, .int .i64 y] by rw [hW, hg]; exact Blk.new _ _ _)
 have HSd := hide (fun (l' : List UInt8) (w' : World) (h2 : Bo B b l' w w') (w2 : World) (l2 : List UInt8) (h3 : Bo B b l2 w' w2) (kk : Blk w' g 92 #[.int .i64 k, .string t, .int .i64 n, .int .i64 gt, .slice A m c, .int .i64 x, .int .i64 y]) => (h2.blk h3 kk (by decide) (by decide) : Blk w2 g 92 #[.int .i64 k, .string t, .int .i64 n, .int .i64 gt, .slice A m c, .int .i64 x, .int .i64 y]))
 have HT := hide (fun (w' : World) (k : Below B w w') => ht w' k)
 have HR := hide (fun (w' : World) (k : Below B w w') (i : Nat) (hi : i < m) => arm_cells (hr w' k) i (by rw [← hm]; exact hi))
 have hzn : InI n := hz.n
 have hzx : InI x := hz.onT
 have hzy : InI y := hz.onE
 have HWd := hide (fun (w' : World) => Word_c k w')
 have HTk := hide (fun (w' : World) (k : Tab w') => Text_c n w' hzn.2 k)
 have HLx := hide (fun (w' : World) (k : Tab w') => label_c x w' hzx.1 hzx.2 k)
 have HLy := hide (fun (w' : World) (k : Tab w') => label_c y w' hzy.1 hzy.2 k)
 have HZa := hide (fun (q : Nat) (hq : q < m) => hz.arm _ (armAt_mem (by rw [← hm]; exact hq)))
 have HSz := hide (fun (q : Nat) (hq : q ≤ m) => arms_len ar hz.arm q (by rw [← hm]; exact hq))
 have HAs := hide (fun (q : Nat) (hq : q < m) => arms_succ ar q (by rw [← hm]; exact hq))
 have HE := hide (show expectT ⟨k, t, n, gt, ar, x, y⟩ = (lineT [wordT k, tkT n] ++ (ar.take m).flatMap armT ++ (if 0 ≤ x then lineT [[116, 105, 109, 101, 111, 117, 116], labelT x] else [])) ++ (if 0 ≤ y then lineT [[101, 111, 102], labelT y] else []) by rw [hm, List.take_length]; rfl)
 have h1 := line2_len (wordT k) (tkT n)
 have h2 := word_len k
 have h3 : (tkT n).length ≤ 21 := tk_len hzn.2
 have h4 := line2_len [116, 105, 109, 101, 111, 117, 116] (labelT x)
 have h5 := line2_len [101, 111, 102] (labelT y)
 have h6 : (labelT x).length ≤ 22 := label_len hzx.1 hzx.2
 have h7 : (labelT y).length ≤ 22 := label_len hzy.1 hzy.2
 have h8 : ([116, 105, 109, 101, 111, 117, 116] : List UInt8).length = 7 := rfl
 have h9 : ([101, 111, 102] : List UInt8).length = 3 := rfl
 have HL1 := hide (show (lineT [wordT k, tkT n]).length ≤ 40 by omega)
 have HLX := hide (show (lineT [[116, 105, 109, 101, 111, 117, 116], labelT x]).length ≤ 40 by omega)
 have HLY := hide (show (lineT [[101, 111, 102], labelT y]).length ≤ 40 by omega)
 have HQu := hide (fun (s : ByteArray) (h : s.size ≤ 256) (w' : World) => Quote_c s w' (by omega))
 have HLz := hide (fun (n : Int) (h : InI n) (w' : World) (k : Tab w') => label_c n w' h.1 h.2 k)
 have HLn := hide (fun (g : Nat) (l : List UInt8) (ws : List (List UInt8)) (w' : World) (h : BlAt B b l w') (hg : Blk w' g 9 (ws.map strV).toArray) (hn : ws.length ≤ 8) (hlen : l.length + (lineT ws).length ≤ 140737488355328) => line_c B b g l ws w' h hg hn hlen)
 have HW := hide hW
 have Hg := hide hg
 clear h hr ht hz hm hW hg hzn hzx hzy h1 h2 h3 h4 h5 h6 h7 h8 h9
 go_enter Tryz.func106, Tryz.ntmps106
 go_upto_region 1 with fail
 change Code.wp _ _ _ _ (w.alloc (.cells #[.int .i64 k, .string t, .int .i64 n, .int .i64 gt, .slice A m c, .int .i64 x, .int .i64 y] 92))
 rw [← HW.out, ← Hg.out]
 have c0 : W.cell? ⟨g, 0, none⟩ = some (.int .i64 k) := by rw [HG.out.cell]; rfl
 have c2 : W.cell? ⟨g, 2, none⟩ = some (.int .i64 n) := by rw [HG.out.cell]; rfl
 obtain ⟨V0, hV0⟩ : ∃ V9, V9 = W.drew := ⟨_, rfl⟩
 have HO0 := hide (show Bo B b l w V0 by rw [hV0]; exact HO.out.drew)
 have HG0 := hide (show Blk V0 g 92 #[.int .i64 k, .string t, .int .i64 n, .int .i64 gt, .slice A m c, .int .i64 x, .int .i64 y] by rw [hV0]; exact HG.out.drew)
 refine wp_region_held (S := fun w' => w'.cell? ⟨g, 0, none⟩ = some (.int .i64 k) ∧ w'.cell? ⟨g, 2, none⟩ = some (.int .i64 n)) (by kernel_rfl) ?_
 change wpAnyH _ _ _ _ _ _ _ _ W.drew
 have hHeld : (fun w' => w'.cell? ⟨g, 0, none⟩ = some (.int .i64 k) ∧ w'.cell? ⟨g, 2, none⟩ = some (.int .i64 n)) W.drew := ⟨c0, c2⟩
 rw [← hV0] at hHeld ⊢
 simp only [List.size_toArray, List.length_cons, List.length_nil, Nat.zero_add, Nat.reduceAdd]
 clear hV0
 refine tk 0 ?_ rfl ?_ ?_
 rotate_left
 ·(intro w9 hS9; (try simp only [ga]); go_simp <;> rfl)
 refine tk 1 ?_ rfl ?_ ?_
 rotate_left
 ·(intro w9 hS9; (try simp only [ga]); go_simp <;> rfl)
 refine tk 2 ?_ rfl ?_ ?_
 rotate_left
 ·(intro w9 hS9; (try simp only [ga]); go_simp <;> rfl)
 refine tk 4 ?_ rfl ?_ ?_
 rotate_left
 ·(intro w9 hS9; (try simp only [ga]); go_simp <;> rfl)
 refine tk 5 ?_ rfl ?_ ?_
 rotate_left
 ·(intro w9 hS9; (try simp only [ga]); go_simp <;> rfl)
 try simp only [Act.put, gp]
 refine rdy 3 rfl (fun K hK => ?_)
 try simp only [ga]
 try go_simp
 go_at_call 104
 refine (HWd.out _).mono ?_
 rintro e V1 ⟨rfl, hv1⟩
 rw [hv1]
 refine hK.out _ _ (by have q0 := HG0.out.cell 0; have q2 := HG0.out.cell 2; exact ⟨q0, q2⟩) (fun hHeld => ?_)
 clear hK K
 try simp only [Act.put, gp]
 refine rdy 6 rfl (fun K hK => ?_)
 try simp only [ga]
 try go_simp
 go_at_call 61
 refine (HTk.out _ (HT.out _ HO0.out.2.1)).mono ?_
 rintro e V2 ⟨rfl, hb2⟩
 have HO2 := hide (HO0.out.far hb2)
 have HG2 := hide (HG0.out.below hb2)
 clear hb2
 refine hK.out _ _ (by have q0 := HG2.out.cell 0; have q2 := HG2.out.cell 2; exact ⟨q0, q2⟩) (fun hHeld => ?_)
 clear hK K
 try simp only [Act.put, gp]
 refine rdy 7 rfl (fun K hK => ?_)
 try simp only [ga]
 try go_simp
 obtain ⟨V3, hV9⟩ : ∃ V9, V9 = V2.alloc (.cells (([wordT k, tkT n].map strV).toArray) 9) := ⟨_, rfl⟩
 obtain ⟨g3, hg9⟩ : ∃ g9, g9 = V2.heap.size := ⟨_, rfl⟩
 have HO3 := hide (show Bo B b (l) w V3 by rw [hV9]; exact HO2.out.alloc _)
 have HN3 := hide (show Blk V3 g3 9 ([wordT k, tkT n].map strV).toArray by rw [hV9, hg9]; exact Blk.new _ _ _)
 have hV8 : V3 = V2.alloc (.cells #[.string ⟨(wordT k).toArray⟩, .string ⟨(tkT n).toArray⟩] 9) := hV9
 try rw [← tkT_eq] at hV8
 have HG3 := hide (show Blk V3 g 92 #[.int .i64 k, .string t, .int .i64 n, .int .i64 gt, .slice A m c, .int .i64 x, .int .i64 y] by rw [hV9]; exact HG2.out.alloc _)
 erw [← hV8]
 rw [← hg9]
 clear hV8 hV9 hg9
 refine hK.out _ _ (by have q0 := HG3.out.cell 0; have q2 := HG3.out.cell 2; exact ⟨q0, q2⟩) (fun hHeld => ?_)
 clear hK K
 try simp only [Act.put, gp]
 refine rdy 8 rfl (fun K hK => ?_)
 try simp only [ga]
 try go_simp
 go_at_call 60
 refine (HLn.out g3 (l) [wordT k, tkT n] _ HO3.out.1 HN3.out (by simp) (by have := HL1.out; omega)).mono ?_
 rintro e V4 ⟨rfl, hq9⟩
 have HO4 := hide (HO3.out.trans hq9)
 have HG4 := hide (HO3.out.blk hq9 HG3.out (by decide) (by decide))
 clear hq9 HN3
 refine hK.out _ _ (by have q0 := HG4.out.cell 0; have q2 := HG4.out.cell 2; exact ⟨q0, q2⟩) (fun hHeld => ?_)
 clear hK K
 try simp only [Act.put, gp]
 refine wpAnyH_done (by kernel_rfl) ?_ _
 try simp only [Exit.then]
 clear hHeld
 have c4 : V4.cell? ⟨g, 4, none⟩ = some (.slice A m c) := by rw [HG4.out.cell]; rfl
 go_wp2_with fail
 go_loopw [18] (fun i wr => ∃ q : Nat, q ≤ m ∧ i = .int .i64 q ∧ Hid (Bo B b (l ++ lineT [wordT k, tkT n] ++ (ar.take q).flatMap armT) w wr) ∧ Hid (Blk wr g 92 #[.int .i64 k, .string t, .int .i64 n, .int .i64 gt, .slice A m c, .int .i64 x, .int .i64 y])) (fun i _ => m - (intOf i).toNat)
 case atStart => exact ⟨0, Nat.zero_le _, rfl, by rw [List.take_zero, List.flatMap_nil, List.append_nil]; exact HO4, HG4⟩
 case round =>
  clear HO HG HO0 HG0 HO2 HG2 HO3 HG3 HO4 HG4 c0 c2 c4
  obtain ⟨q, hq, rfl, HQ, HG⟩ := hrel
  have w0 : IntKind.i64.wrap ((q : Int) + 1) = (q : Int) + 1 := IntWalk.i64_in _ (by omega)
  have HSq := hide (HSz.out q hq)
  by_cases hlt : q < m
  case neg =>
   obtain rfl : q = m := by omega
   have d1 : decide ((q : Int) < (q : Int)) = false := by simp
   have d2 : decide (q < q) = false := by simp
   obtain ⟨V4, hV4⟩ : ∃ V9, V9 = wr := ⟨_, rfl⟩
   rw [← hV4] at HQ HG ⊢
   clear hV4
   have HO4 := HQ
   have HG4 := HG
   clear HQ HG
   have c5 : V4.cell? ⟨g, 5, none⟩ = some (.int .i64 x) := by rw [HG4.out.cell]; rfl
   have c6 : V4.cell? ⟨g, 6, none⟩ = some (.int .i64 y) := by rw [HG4.out.cell]; rfl
   by_cases hx0 : 0 ≤ x
   case pos =>
    have f1 : decide (0 ≤ x) = true := by simp; omega
    have f2 : decide (x ≥ 0) = true := by simp; omega
    go_wp2_with fail
    refine (HLx.out _ (HT.out _ HO4.out.2.1)).mono ?_
    rintro e V5 ⟨rfl, hb9⟩
    have HO5 := hide (HO4.out.far hb9)
    have HG5 := hide (HG4.out.below hb9)
    clear hb9 c5 c6
    go_wp2_with fail
    obtain ⟨V6, hV9⟩ : ∃ V9, V9 = V5.alloc (.cells (([[116, 105, 109, 101, 111, 117, 116], labelT x].map strV).toArray) 9) := ⟨_, rfl⟩
    obtain ⟨g6, hg9⟩ : ∃ g9, g9 = V5.heap.size := ⟨_, rfl⟩
    have HO6 := hide (show Bo B b (l ++ lineT [wordT k, tkT n] ++ (ar.take q).flatMap armT) w V6 by rw [hV9]; exact HO5.out.alloc _)
    have HN6 := hide (show Blk V6 g6 9 ([[116, 105, 109, 101, 111, 117, 116], labelT x].map strV).toArray by rw [hV9, hg9]; exact Blk.new _ _ _)
    have hV8 : V6 = V5.alloc (.cells #[.string ⟨([116, 105, 109, 101, 111, 117, 116]).toArray⟩, .string ⟨(labelT x).toArray⟩] 9) := hV9
    try rw [← tkT_eq] at hV8
    have HG6 := hide (show Blk V6 g 92 #[.int .i64 k, .string t, .int .i64 n, .int .i64 gt, .slice A q c, .int .i64 x, .int .i64 y] by rw [hV9]; exact HG5.out.alloc _)
    erw [← hV8]
    rw [← hg9]
    clear hV8 hV9 hg9
    refine (HLn.out g6 (l ++ lineT [wordT k, tkT n] ++ (ar.take q).flatMap armT) [[116, 105, 109, 101, 111, 117, 116], labelT x] _ HO6.out.1 HN6.out (by simp) (by have := HLX.out; have := HLY.out; have := HSq.out; have := HL1.out; simp only [List.length_append]; omega)).mono ?_
    rintro e V7 ⟨rfl, hq9⟩
    have HO7 := hide (HO6.out.trans hq9)
    have HG7 := hide (HO6.out.blk hq9 HG6.out (by decide) (by decide))
    clear hq9 HN6
    have c5 : V7.cell? ⟨g, 5, none⟩ = some (.int .i64 x) := by rw [HG7.out.cell]; rfl
    have c6 : V7.cell? ⟨g, 6, none⟩ = some (.int .i64 y) := by rw [HG7.out.cell]; rfl
    by_cases hy0 : 0 ≤ y
    case pos =>
     have f3 : decide (0 ≤ y) = true := by simp; omega
     have f4 : decide (y ≥ 0) = true := by simp; omega
     go_wp2_with fail
     refine (HLy.out _ (HT.out _ HO7.out.2.1)).mono ?_
     rintro e V8 ⟨rfl, hb9⟩
     have HO8 := hide (HO7.out.far hb9)
     have HG8 := hide (HG7.out.below hb9)
     clear hb9 c5 c6
     go_wp2_with fail
     obtain ⟨V9, hV9⟩ : ∃ V9, V9 = V8.alloc (.cells (([[101, 111, 102], labelT y].map strV).toArray) 9) := ⟨_, rfl⟩
     obtain ⟨g9, hg9⟩ : ∃ g9, g9 = V8.heap.size := ⟨_, rfl⟩
     have HO9 := hide (show Bo B b (l ++ lineT [wordT k, tkT n] ++ (ar.take q).flatMap armT ++ lineT [[116, 105, 109, 101, 111, 117, 116], labelT x]) w V9 by rw [hV9]; exact HO8.out.alloc _)
     have HN9 := hide (show Blk V9 g9 9 ([[101, 111, 102], labelT y].map strV).toArray by rw [hV9, hg9]; exact Blk.new _ _ _)
     have hV8 : V9 = V8.alloc (.cells #[.string ⟨([101, 111, 102]).toArray⟩, .string ⟨(labelT y).toArray⟩] 9) := hV9
     try rw [← tkT_eq] at hV8
     have HG9 := hide (show Blk V9 g 92 #[.int .i64 k, .string t, .int .i64 n, .int .i64 gt, .slice A q c, .int .i64 x, .int .i64 y] by rw [hV9]; exact HG8.out.alloc _)
     erw [← hV8]
     rw [← hg9]
     clear hV8 hV9 hg9
     refine (HLn.out g9 (l ++ lineT [wordT k, tkT n] ++ (ar.take q).flatMap armT ++ lineT [[116, 105, 109, 101, 111, 117, 116], labelT x]) [[101, 111, 102], labelT y] _ HO9.out.1 HN9.out (by simp) (by have := HLX.out; have := HLY.out; have := HSq.out; have := HL1.out; simp only [List.length_append]; omega)).mono ?_
     rintro e V10 ⟨rfl, hq9⟩
     have HO10 := hide (HO9.out.trans hq9)
     have HG10 := hide (HO9.out.blk hq9 HG9.out (by decide) (by decide))
     clear hq9 HN9
     have c5 : V10.cell? ⟨g, 5, none⟩ = some (.int .i64 x) := by rw [HG10.out.cell]; rfl
     have c6 : V10.cell? ⟨g, 6, none⟩ = some (.int .i64 y) := by rw [HG10.out.cell]; rfl
     go_wp2_with fail
     go_end0
     have e9 : l ++ expectT ⟨k, t, n, gt, ar, x, y⟩ = l ++ lineT [wordT k, tkT n] ++ (ar.take q).flatMap armT ++ lineT [[116, 105, 109, 101, 111, 117, 116], labelT x] ++ lineT [[101, 111, 102], labelT y] := by rw [HE.out, if_pos (show 0 ≤ x by omega), if_pos (show 0 ≤ y by omega)]; simp
     exact ⟨rfl, by rw [e9]; exact HO10.out⟩
    case neg =>
     have f3 : decide (0 ≤ y) = false := by simp; omega
     have f4 : decide (y ≥ 0) = false := by simp; omega
     go_wp2_with fail
     go_end0
     have e9 : l ++ expectT ⟨k, t, n, gt, ar, x, y⟩ = l ++ lineT [wordT k, tkT n] ++ (ar.take q).flatMap armT ++ lineT [[116, 105, 109, 101, 111, 117, 116], labelT x] := by rw [HE.out, if_pos (show 0 ≤ x by omega), if_neg (show ¬ 0 ≤ y by omega)]; simp
     exact ⟨rfl, by rw [e9]; exact HO7.out⟩
   case neg =>
    have f1 : decide (0 ≤ x) = false := by simp; omega
    have f2 : decide (x ≥ 0) = false := by simp; omega
    by_cases hy0 : 0 ≤ y
    case pos =>
     have f3 : decide (0 ≤ y) = true := by simp; omega
     have f4 : decide (y ≥ 0) = true := by simp; omega
     go_wp2_with fail
     refine (HLy.out _ (HT.out _ HO4.out.2.1)).mono ?_
     rintro e V5 ⟨rfl, hb9⟩
     have HO5 := hide (HO4.out.far hb9)
     have HG5 := hide (HG4.out.below hb9)
     clear hb9 c5 c6
     go_wp2_with fail
     obtain ⟨V6, hV9⟩ : ∃ V9, V9 = V5.alloc (.cells (([[101, 111, 102], labelT y].map strV).toArray) 9) := ⟨_, rfl⟩
     obtain ⟨g6, hg9⟩ : ∃ g9, g9 = V5.heap.size := ⟨_, rfl⟩
     have HO6 := hide (show Bo B b (l ++ lineT [wordT k, tkT n] ++ (ar.take q).flatMap armT) w V6 by rw [hV9]; exact HO5.out.alloc _)
     have HN6 := hide (show Blk V6 g6 9 ([[101, 111, 102], labelT y].map strV).toArray by rw [hV9, hg9]; exact Blk.new _ _ _)
     have hV8 : V6 = V5.alloc (.cells #[.string ⟨([101, 111, 102]).toArray⟩, .string ⟨(labelT y).toArray⟩] 9) := hV9
     try rw [← tkT_eq] at hV8
     have HG6 := hide (show Blk V6 g 92 #[.int .i64 k, .string t, .int .i64 n, .int .i64 gt, .slice A q c, .int .i64 x, .int .i64 y] by rw [hV9]; exact HG5.out.alloc _)
     erw [← hV8]
     rw [← hg9]
     clear hV8 hV9 hg9
     refine (HLn.out g6 (l ++ lineT [wordT k, tkT n] ++ (ar.take q).flatMap armT) [[101, 111, 102], labelT y] _ HO6.out.1 HN6.out (by simp) (by have := HLX.out; have := HLY.out; have := HSq.out; have := HL1.out; simp only [List.length_append]; omega)).mono ?_
     rintro e V7 ⟨rfl, hq9⟩
     have HO7 := hide (HO6.out.trans hq9)
     have HG7 := hide (HO6.out.blk hq9 HG6.out (by decide) (by decide))
     clear hq9 HN6
     have c5 : V7.cell? ⟨g, 5, none⟩ = some (.int .i64 x) := by rw [HG7.out.cell]; rfl
     have c6 : V7.cell? ⟨g, 6, none⟩ = some (.int .i64 y) := by rw [HG7.out.cell]; rfl
     go_wp2_with fail
     go_end0
     have e9 : l ++ expectT ⟨k, t, n, gt, ar, x, y⟩ = l ++ lineT [wordT k, tkT n] ++ (ar.take q).flatMap armT ++ lineT [[101, 111, 102], labelT y] := by rw [HE.out, if_neg (show ¬ 0 ≤ x by omega), if_pos (show 0 ≤ y by omega)]; simp
     exact ⟨rfl, by rw [e9]; exact HO7.out⟩
    case neg =>
     have f3 : decide (0 ≤ y) = false := by simp; omega
     have f4 : decide (y ≥ 0) = false := by simp; omega
     go_wp2_with fail
     go_end0
     have e9 : l ++ expectT ⟨k, t, n, gt, ar, x, y⟩ = l ++ lineT [wordT k, tkT n] ++ (ar.take q).flatMap armT := by rw [HE.out, if_neg (show ¬ 0 ≤ x by omega), if_neg (show ¬ 0 ≤ y by omega)]; simp
     exact ⟨rfl, by rw [e9]; exact HO4.out⟩
  case pos =>
   have d1 : decide ((q : Int) < (m : Int)) = true := by simp; exact hlt
   have d2 : decide (q < m) = true := by simp; exact hlt
   have j1 : (0 : Int) ≤ (q : Int) := by omega
   have j2 : (q : Int) < (m : Int) := by omega
   obtain ⟨ab, ao, hA, hab, a0, a1⟩ := HR.out _ HQ.out.2.1 q hlt
   have HA := hide hA
   have HZq := hide (HZa.out q hlt)
   have HAq := hide (HAs.out q hlt)
   obtain ⟨u, hu⟩ : ∃ u, u = armAt ar q := ⟨_, rfl⟩
   rw [← hu] at a0 a1 HZq HAq
   clear hu
   subst hA
   go_upto_region 5 with fail
   obtain ⟨W5, hW5⟩ : ∃ W5, W5 = wr.alloc (.cells #[.string u.pat, .int .i64 u.to] 94) := ⟨_, rfl⟩
   obtain ⟨ga, hga⟩ : ∃ ga, ga = wr.heap.size := ⟨_, rfl⟩
   have HO5 := hide (show Bo B b (l ++ lineT [wordT k, tkT n] ++ (ar.take q).flatMap armT) w W5 by rw [hW5]; exact HQ.out.alloc _)
   have HG5 := hide (show Blk W5 g 92 #[.int .i64 k, .string t, .int .i64 n, .int .i64 gt, .slice (some ⟨ab, ao, none⟩) m c, .int .i64 x, .int .i64 y] by rw [hW5]; exact HG.out.alloc _)
   have HA5 := hide (show Blk W5 ga 94 #[.string u.pat, .int .i64 u.to] by rw [hW5, hga]; exact Blk.new _ _ _)
   rw [← hW5, ← hga]
   clear hW5 hga HQ HG a0 a1
   have b0 : W5.cell? ⟨ga, 0, none⟩ = some (.string u.pat) := by rw [HA5.out.cell]; rfl
   have b1 : W5.cell? ⟨ga, 1, none⟩ = some (.int .i64 u.to) := by rw [HA5.out.cell]; rfl
   obtain ⟨V0, hV0⟩ : ∃ V9, V9 = W5.drew := ⟨_, rfl⟩
   have HO0 := hide (show Bo B b (l ++ lineT [wordT k, tkT n] ++ (ar.take q).flatMap armT) w V0 by rw [hV0]; exact HO5.out.drew)
   have HG0 := hide (show Blk V0 g 92 #[.int .i64 k, .string t, .int .i64 n, .int .i64 gt, .slice (some ⟨ab, ao, none⟩) m c, .int .i64 x, .int .i64 y] by rw [hV0]; exact HG5.out.drew)
   have HA0 := hide (show Blk V0 ga 94 #[.string u.pat, .int .i64 u.to] by rw [hV0]; exact HA5.out.drew)
   refine wp_region_held (S := fun w' => w'.cell? ⟨ga, 0, none⟩ = some (.string u.pat) ∧ w'.cell? ⟨ga, 1, none⟩ = some (.int .i64 u.to)) (by kernel_rfl) ?_
   change wpAnyH _ _ _ _ _ _ _ _ W5.drew
   have hHeld : (fun w' => w'.cell? ⟨ga, 0, none⟩ = some (.string u.pat) ∧ w'.cell? ⟨ga, 1, none⟩ = some (.int .i64 u.to)) W5.drew := ⟨b0, b1⟩
   rw [← hV0] at hHeld ⊢
   simp only [List.size_toArray, List.length_cons, List.length_nil, Nat.zero_add, Nat.reduceAdd]
   clear hV0
   refine tk 0 ?_ rfl ?_ ?_
   rotate_left
   ·(intro w9 hS9; (try simp only [ga]); go_simp <;> rfl)
   refine tk 1 ?_ rfl ?_ ?_
   rotate_left
   ·(intro w9 hS9; (try simp only [ga]); go_simp <;> rfl)
   refine tk 2 ?_ rfl ?_ ?_
   rotate_left
   ·(intro w9 hS9; (try simp only [ga]); go_simp <;> rfl)
   refine tk 4 ?_ rfl ?_ ?_
   rotate_left
   ·(intro w9 hS9; (try simp only [ga]); go_simp <;> rfl)
   refine tk 5 ?_ rfl ?_ ?_
   rotate_left
   ·(intro w9 hS9; (try simp only [ga]); go_simp <;> rfl)
   try simp only [Act.put, gp]
   refine rdy 3 rfl (fun K hK => ?_)
   try simp only [ga]
   try go_simp
   go_at_call 105
   refine (HQu.out _ HZq.out.1 _).mono ?_
   rintro e V1 ⟨rfl, hb9⟩
   have HO1 := hide (HO0.out.far hb9)
   have HG1 := hide (HG0.out.below hb9)
   have HA1 := hide (HA0.out.below hb9)
   clear hb9
   refine hK.out _ _ (by have q0 := HA1.out.cell 0; have q1 := HA1.out.cell 1; exact ⟨q0, q1⟩) (fun hHeld => ?_)
   clear hK K
   try simp only [Act.put, gp]
   refine rdy 6 rfl (fun K hK => ?_)
   try simp only [ga]
   try go_simp
   go_at_call 64
   refine (HLz.out _ HZq.out.2 _ (HT.out _ HO1.out.2.1)).mono ?_
   rintro e V2 ⟨rfl, hb9⟩
   have HO2 := hide (HO1.out.far hb9)
   have HG2 := hide (HG1.out.below hb9)
   have HA2 := hide (HA1.out.below hb9)
   clear hb9
   refine hK.out _ _ (by have q0 := HA2.out.cell 0; have q1 := HA2.out.cell 1; exact ⟨q0, q1⟩) (fun hHeld => ?_)
   clear hK K
   try simp only [Act.put, gp]
   refine rdy 7 rfl (fun K hK => ?_)
   try simp only [ga]
   try go_simp
   obtain ⟨V3, hV9⟩ : ∃ V9, V9 = V2.alloc (.cells (([[111, 110], quoteT u.pat.data.toList, labelT u.to].map strV).toArray) 9) := ⟨_, rfl⟩
   obtain ⟨g3, hg9⟩ : ∃ g9, g9 = V2.heap.size := ⟨_, rfl⟩
   have HO3 := hide (show Bo B b (l ++ lineT [wordT k, tkT n] ++ (ar.take q).flatMap armT) w V3 by rw [hV9]; exact HO2.out.alloc _)
   have HN3 := hide (show Blk V3 g3 9 ([[111, 110], quoteT u.pat.data.toList, labelT u.to].map strV).toArray by rw [hV9, hg9]; exact Blk.new _ _ _)
   have hV8 : V3 = V2.alloc (.cells #[.string ⟨([111, 110]).toArray⟩, .string ⟨(quoteT u.pat.data.toList).toArray⟩, .string ⟨(labelT u.to).toArray⟩] 9) := hV9
   try rw [← tkT_eq] at hV8
   have HG3 := hide (show Blk V3 g 92 #[.int .i64 k, .string t, .int .i64 n, .int .i64 gt, .slice (some ⟨ab, ao, none⟩) m c, .int .i64 x, .int .i64 y] by rw [hV9]; exact HG2.out.alloc _)
   have HA3 := hide (show Blk V3 ga 94 #[.string u.pat, .int .i64 u.to] by rw [hV9]; exact HA2.out.alloc _)
   erw [← hV8]
   rw [← hg9]
   clear hV8 hV9 hg9
   refine hK.out _ _ (by have q0 := HA3.out.cell 0; have q1 := HA3.out.cell 1; exact ⟨q0, q1⟩) (fun hHeld => ?_)
   clear hK K
   try simp only [Act.put, gp]
   refine rdy 8 rfl (fun K hK => ?_)
   try simp only [ga]
   try go_simp
   go_at_call 60
   refine (HLn.out g3 (l ++ lineT [wordT k, tkT n] ++ (ar.take q).flatMap armT) [[111, 110], quoteT u.pat.data.toList, labelT u.to] _ HO3.out.1 HN3.out (by simp) (by have : (lineT [[111, 110], quoteT u.pat.data.toList, labelT u.to]).length ≤ 1060 := arm_len HZq.out; have := HSq.out; have := HL1.out; simp only [List.length_append]; omega)).mono ?_
   rintro e V4 ⟨rfl, hq9⟩
   have HO4 := hide (HO3.out.trans hq9)
   have HG4 := hide (HO3.out.blk hq9 HG3.out (by decide) (by decide))
   have HA4 := hide (HO3.out.blk hq9 HA3.out (by decide) (by decide))
   clear hq9 HN3
   refine hK.out _ _ (by have q0 := HA4.out.cell 0; have q1 := HA4.out.cell 1; exact ⟨q0, q1⟩) (fun hHeld => ?_)
   clear hK K
   try simp only [Act.put, gp]
   refine wpAnyH_done (by kernel_rfl) ?_ _
   try simp only [Exit.then]
   clear hHeld
   go_wp2_with fail
   go_roundw
   case rel => exact ⟨q + 1, by omega, by go_num, by rw [HAq.out, ← List.append_assoc]; exact HO4, HG4⟩
   case measure => simp [intOf]; omega
end Go.Proofs.YtaioaojfdngfdaaGreatDoor
