/- The walk of LedgerLines. Conditions: those of each theorem. -/
import Derived.Test.YthnjebpbokmemaaDoorLed6
namespace Go.Proofs.YthnjebpbokmemaaDoor
open Go.RowKit
set_option linter.unusedVariables false

theorem Line_c (r : RowM) (w : World) (hr : RowOk r) (ht : Tab w) : Calls Tryd.prog 6 #[.agg (rowV r)] w fun e w' => e = .returned (.string (bs (lineT r))) ∧ Below w.heap.size w w' := by
  have hL : Below w.heap.size w (w.alloc (.cells (rowV r) 23)) := below_alloc _ _
  have HC := hide (fun (w' : World) (ht : Tab w') => line_c r w' hr ht)
  have HL := hide hL
  have HT := hide (ht.below hL)
  clear hL hr
  go_enter Tryd.func6, Tryd.ntmps6
  go_wp2_with fail
  refine (HC.out _ (by first | exact HT.out | exact ht)).mono ?_
  rintro e w1 ⟨rfl, hb1⟩
  go_wp2_with fail
  go_ret
  first
    | exact ⟨rfl, HL.out.trans (hb1.mono HL.out.size)⟩
    | exact ⟨rfl, hb1⟩
set_option maxRecDepth 100000 in
set_option maxHeartbeats 6400000 in
theorem LedgerLines_walk (r : RowM) (w : World) (hr : RowOk r) (ht : Tab w) : Calls Tryd.prog 3 #[.agg (rowV r)] w fun e w' => e = .returned (.bool true) ∧ Below w.heap.size w w' := by
  have C1 := hide (fun (w' : World) (ht : Tab w') => Line_c r w' hr ht)
  have C2 := hide (fun (w' : World) => refLine_c r w' hr)
  obtain ⟨ln, hln⟩ : ∃ ln, ln = lineT r := ⟨_, rfl⟩
  rw [← hln] at C1 C2
  obtain ⟨a0, a1, a2, a3, a4, a5, a6, a7, a8, a9⟩ := r
  have D1 := hide (fun (w' : World) (ht : Tab w') => show Calls Tryd.prog 6 #[.agg #[.int .i64 a0, .int .i64 a1, .int .i64 a2, .int .i64 a3, .int .i64 a4, .int .i64 a5, .int .i64 a6, .int .i64 a7, .int .i64 a8, .int .i64 a9]] w' (fun e w'' => e = .returned (.string (bs ln)) ∧ Below w'.heap.size w' w'') from C1.out w' ht)
  have D2 := hide (fun (w' : World) => show Calls Tryd.prog 7 #[.agg #[.int .i64 a0, .int .i64 a1, .int .i64 a2, .int .i64 a3, .int .i64 a4, .int .i64 a5, .int .i64 a6, .int .i64 a7, .int .i64 a8, .int .i64 a9]] w' (fun e w'' => e = .returned (.string (bs ln)) ∧ Below w'.heap.size w' w'') from C2.out w')
  obtain ⟨W, hW⟩ : ∃ W, W = w.alloc (.cells #[.int .i64 a0, .int .i64 a1, .int .i64 a2, .int .i64 a3, .int .i64 a4, .int .i64 a5, .int .i64 a6, .int .i64 a7, .int .i64 a8, .int .i64 a9] 23) := ⟨_, rfl⟩
  have hL : Below w.heap.size w W := by rw [hW]; exact below_alloc _ _
  have hb : Blk W w.heap.size 23 #[.int .i64 a0, .int .i64 a1, .int .i64 a2, .int .i64 a3, .int .i64 a4, .int .i64 a5, .int .i64 a6, .int .i64 a7, .int .i64 a8, .int .i64 a9] := by rw [hW]; exact Blk.new _ _ _
  obtain ⟨y0, y1, y2, y3, y4, y5, y6, y7, y8, y9⟩ := hb.tenR
  have HW := hide hW
  have HL := hide hL
  have HC := hide (below_drew W)
  have HTc := hide (show Tab W.drew from (ht.below hL).drew)
  clear hW hL hb hr hln C1 C2 ht
  go_enter Tryd.func3, Tryd.ntmps3
  go_upto_region 1 with fail
  change Code.wp _ _ _ _ (w.alloc (.cells #[.int .i64 a0, .int .i64 a1, .int .i64 a2, .int .i64 a3, .int .i64 a4, .int .i64 a5, .int .i64 a6, .int .i64 a7, .int .i64 a8, .int .i64 a9] 23))
  rw [← HW.out]
  go_region_held3 (fun w' => w'.cell? ⟨w.heap.size, 0, none⟩ = some (.int .i64 a0) ∧ w'.cell? ⟨w.heap.size, 1, none⟩ = some (.int .i64 a1) ∧ w'.cell? ⟨w.heap.size, 2, none⟩ = some (.int .i64 a2) ∧ w'.cell? ⟨w.heap.size, 3, none⟩ = some (.int .i64 a3) ∧ w'.cell? ⟨w.heap.size, 4, none⟩ = some (.int .i64 a4) ∧ w'.cell? ⟨w.heap.size, 5, none⟩ = some (.int .i64 a5) ∧ w'.cell? ⟨w.heap.size, 6, none⟩ = some (.int .i64 a6) ∧ w'.cell? ⟨w.heap.size, 7, none⟩ = some (.int .i64 a7) ∧ w'.cell? ⟨w.heap.size, 8, none⟩ = some (.int .i64 a8) ∧ w'.cell? ⟨w.heap.size, 9, none⟩ = some (.int .i64 a9)) (go_keep)
    (first
      | (go_at_call 6
         refine (D1.out _ HTc.out).mono ?_
         rintro e wn ⟨rfl, hbn⟩
         replace HC := hide (HC.out.trans (hbn.mono HC.out.size))
         replace HTc := hide (HTc.out.below hbn)
         replace y0 := bkeep hbn y0
         replace y1 := bkeep hbn y1
         replace y2 := bkeep hbn y2
         replace y3 := bkeep hbn y3
         replace y4 := bkeep hbn y4
         replace y5 := bkeep hbn y5
         replace y6 := bkeep hbn y6
         replace y7 := bkeep hbn y7
         replace y8 := bkeep hbn y8
         replace y9 := bkeep hbn y9
         clear hbn)
      | (go_at_call 7
         refine (D2.out _).mono ?_
         rintro e wn ⟨rfl, hbn⟩
         replace HC := hide (HC.out.trans (hbn.mono HC.out.size))
         replace HTc := hide (HTc.out.below hbn)
         replace y0 := bkeep hbn y0
         replace y1 := bkeep hbn y1
         replace y2 := bkeep hbn y2
         replace y3 := bkeep hbn y3
         replace y4 := bkeep hbn y4
         replace y5 := bkeep hbn y5
         replace y6 := bkeep hbn y6
         replace y7 := bkeep hbn y7
         replace y8 := bkeep hbn y8
         replace y9 := bkeep hbn y9
         clear hbn)
      | (go_at_call 8
         refine (lives38_c _ HTc.out).mono ?_
         rintro e wn ⟨rfl, hbn⟩
         replace HC := hide (HC.out.trans (hbn.mono HC.out.size))
         replace HTc := hide (HTc.out.below hbn)
         replace y0 := bkeep hbn y0
         replace y1 := bkeep hbn y1
         replace y2 := bkeep hbn y2
         replace y3 := bkeep hbn y3
         replace y4 := bkeep hbn y4
         replace y5 := bkeep hbn y5
         replace y6 := bkeep hbn y6
         replace y7 := bkeep hbn y7
         replace y8 := bkeep hbn y8
         replace y9 := bkeep hbn y9
         clear hbn))
  all_goals
    go_wp2_with fail
    go_ret
    exact ⟨rfl, HL.out.trans (HC.out.mono HL.out.size)⟩
end Go.Proofs.YthnjebpbokmemaaDoor
