/- In how many rounds a text is sent at the latest, by the program and by the document. Conditions: those of each theorem. -/
import Derived.Test.YtgfogoplmokilaaSdP
import Derived.Test.YtgfogoplmokilaaCls2
import Derived.Test.YtgfogoplmokilaaGraceC
import Derived.Deep.RegionHeld3
namespace Go.Proofs.Ytgfogoplmokilaa
open Go.RowKit
set_option linter.unusedVariables false
set_option linter.unusedSimpArgs false

theorem Blk.sevenB {w : World} {g : Nat} {t : TypeId} {a0 a1 a2 a3 a4 a5 a6 : Value} (h : Blk w g t #[a0, a1, a2, a3, a4, a5, a6]) :
    w.cell? ⟨g, 0, none⟩ = some a0 ∧ w.cell? ⟨g, 1, none⟩ = some a1 ∧ w.cell? ⟨g, 2, none⟩ = some a2 ∧ w.cell? ⟨g, 3, none⟩ = some a3 ∧ w.cell? ⟨g, 4, none⟩ = some a4 ∧ w.cell? ⟨g, 5, none⟩ = some a5 ∧ w.cell? ⟨g, 6, none⟩ = some a6 := by
  refine ⟨?_, ?_, ?_, ?_, ?_, ?_, ?_⟩ <;> (rw [h.cell]; rfl)
theorem cWait_c (s : SetM) (w : World) (hg : goodB s = true) : Calls Try.prog 64 #[.agg (setV s)] w fun e w' => e = .returned (.int .i64 (waitS s)) ∧ Below w.heap.size w w' := by
  have hL : Below w.heap.size w (w.alloc (.cells (setV s) 52)) := below_alloc _ _
  have C := hide (fun w' => wait_c s w' hg)
  have HL := hide hL
  clear hL hg
  go_enter Try.func64, Try.ntmps64
  go_wp2_with fail
  refine (C.out _).mono ?_
  rintro e w1 ⟨rfl, hb1⟩
  go_wp2_with fail
  go_ret
  exact ⟨rfl, HL.out.trans (hb1.mono HL.out.size)⟩
def boundOk (s : SetM) (long write : Int) : Bool := goodB s && (decide (1 ≤ write) && (decide (write ≤ 1000000) && (decide (1 ≤ long) && decide (long ≤ 256))))
def boundS (s : SetM) (long write : Int) : Int := if boundOk s long write = true then long * (write + waitS s + 1) else 0
theorem boundOk_iff {s : SetM} {long write : Int} : boundOk s long write = true ↔ goodB s = true ∧ 1 ≤ write ∧ write ≤ 1000000 ∧ 1 ≤ long ∧ long ≤ 256 := by
  unfold boundOk
  simp only [Bool.and_eq_true, decide_eq_true_eq]
theorem boundS_gt (s : SetM) (long write : Int) : boundS s long write = 0 ∨ long < boundS s long write := by
  unfold boundS
  split
  · rename_i h
    obtain ⟨hg, h1, h2, h3, h4⟩ := boundOk_iff.1 h
    have := waitS_le2 hg
    right
    have h5 : long * 2 ≤ long * (write + waitS s + 1) := Int.mul_le_mul_of_nonneg_left (by omega) (by omega)
    omega
  · left; rfl
theorem boundS_bd (s : SetM) (long write : Int) : 0 ≤ boundS s long write ∧ boundS s long write ≤ 1600000000 := by
  unfold boundS
  split
  · rename_i h
    obtain ⟨hg, h1, h2, h3, h4⟩ := boundOk_iff.1 h
    have := waitS_le2 hg
    have h5 : 0 ≤ long * (write + waitS s + 1) := Int.mul_nonneg (by omega) (by omega)
    have h6 : long * (write + waitS s + 1) ≤ 256 * 6000001 := Int.mul_le_mul h4 (by omega) (by omega) (by omega)
    omega
  · omega
set_option maxRecDepth 100000 in
set_option maxHeartbeats 6400000 in
theorem sbound_c (s : SetM) (x : SdM) (write : Int) (w : World) : Calls Try.prog 47 #[.agg (setV s), .agg #[.int .i64 x.id, .int .i64 x.op, .int .i64 x.long, .int .i64 x.from_, .int .i64 x.taken, .bool x.done, .int .i64 x.at_], .int .i64 write] w fun e w' => e = .returned (.int .i64 (boundS s x.long write)) ∧ Below w.heap.size w w' := by
  obtain ⟨T, hT⟩ : ∃ T, T = boundS s x.long write := ⟨_, rfl⟩
  have HT := hide (show T = if boundOk s x.long write = true then x.long * (write + waitS s + 1) else 0 from hT)
  rw [← hT]
  clear hT
  have HOk := hide (@boundOk_iff s x.long write)
  obtain ⟨W, hW⟩ : ∃ W, W = (w.alloc (.cells (setV s) 52)).alloc (.cells #[.int .i64 x.id, .int .i64 x.op, .int .i64 x.long, .int .i64 x.from_, .int .i64 x.taken, .bool x.done, .int .i64 x.at_] 66) := ⟨_, rfl⟩
  have HL := hide (show Below w.heap.size w W by rw [hW]; exact (below_alloc _ _).alloc (by simp) _)
  have HBs := hide (show Blk W w.heap.size 52 (setV s) by rw [hW]; exact (Blk.new _ _ _).alloc _)
  have HBx := hide (show Blk W (w.heap.size + 1) 66 #[.int .i64 x.id, .int .i64 x.op, .int .i64 x.long, .int .i64 x.from_, .int .i64 x.taken, .bool x.done, .int .i64 x.at_] by rw [hW]; exact Blk.new' (by simp))
  have C := hide (cGood_c s W)
  have HW := hide hW
  have HWt := hide (fun w' hg => cWait_c s w' hg)
  have HWb := hide (fun hg => @waitS_le2 s hg)
  clear hW
  cases hg : goodB s with
  | false =>
    rw [hg] at C
    have HQ := hide (show T = 0 by rw [HT.out, if_neg]; intro h; have := (HOk.out.1 h).1; rw [hg] at this; cases this)
    clear hg HT
    go_enter Try.func47, Try.ntmps47
    go_wp2_with fail
    change Calls _ _ _ ((w.alloc (.cells (setV s) 52)).alloc (.cells #[.int .i64 x.id, .int .i64 x.op, .int .i64 x.long, .int .i64 x.from_, .int .i64 x.taken, .bool x.done, .int .i64 x.at_] 66)) _
    rw [← HW.out]
    refine C.out.mono ?_
    rintro e w1 ⟨rfl, hb1⟩
    have HB1 := hide (HL.out.trans (hb1.mono HL.out.size))
    clear hb1
    go_wp2_with fail
    go_ret
    exact ⟨by rw [HQ.out]; rfl, HB1.out⟩
  | true =>
    rw [hg] at C
    have HWq := hide (fun w' => HWt.out w' hg)
    have hwb := HWb.out hg
    have HGd := hide hg
    obtain ⟨q, hq⟩ : ∃ q, q = waitS s := ⟨_, rfl⟩
    rw [← hq] at HWq hwb HT
    clear hg hq HWt HWb
    go_enter Try.func47, Try.ntmps47
    go_wp2_with fail
    change Calls _ _ _ ((w.alloc (.cells (setV s) 52)).alloc (.cells #[.int .i64 x.id, .int .i64 x.op, .int .i64 x.long, .int .i64 x.from_, .int .i64 x.taken, .bool x.done, .int .i64 x.at_] 66)) _
    rw [← HW.out]
    refine C.out.mono ?_
    rintro e w1 ⟨rfl, hb1⟩
    have HB1 := hide (HL.out.trans (hb1.mono HL.out.size))
    have HBs1 := hide (HBs.out.below hb1)
    have HBx1 := hide (HBx.out.below hb1)
    clear hb1
    obtain ⟨y0, y1, y2, y3, y4, y5⟩ := HBs1.out.six
    obtain ⟨x0, x1, x2, x3, x4, x5, x6⟩ := HBx1.out.sevenB
    by_cases hr : 1 ≤ write ∧ write ≤ 1000000 ∧ 1 ≤ x.long ∧ x.long ≤ 256
    · have HQ := hide (show T = x.long * (write + q + 1) by rw [HT.out, if_pos (HOk.out.2 ⟨HGd.out, hr⟩)])
      obtain ⟨h1, h2, h3, h4⟩ := hr
      have d1 : decide (write < 1) = false := by simp; omega
      have d2 : decide (1000000 < write) = false := by simp; omega
      have d3 : decide (x.long < 1) = false := by simp; omega
      have d4 : decide (256 < x.long) = false := by simp; omega
      have v1 : IntKind.i64.wrap (write + q) = write + q := IntWalk.i64_in _ (by omega)
      have v2 : IntKind.i64.wrap (write + q + 1) = write + q + 1 := IntWalk.i64_in _ (by omega)
      have h5 : 0 ≤ x.long * (write + q + 1) := Int.mul_nonneg (by omega) (by omega)
      have h6 : x.long * (write + q + 1) ≤ 256 * 6000001 := Int.mul_le_mul h4 (by omega) (by omega) (by omega)
      have v3 : IntKind.i64.wrap (x.long * (write + q + 1)) = x.long * (write + q + 1) := IntWalk.i64_in _ (by omega)
      clear h1 h2 h3 h4 h5 h6 hwb
      go_wp2_with fail
      go_region_held3 (fun w' => w'.cell? ⟨w.heap.size, 0, none⟩ = some (.int .i64 s.live) ∧ w'.cell? ⟨w.heap.size, 1, none⟩ = some (.int .i64 s.ring) ∧ w'.cell? ⟨w.heap.size, 2, none⟩ = some (.int .i64 s.win) ∧ w'.cell? ⟨w.heap.size, 3, none⟩ = some (.int .i64 s.out) ∧ w'.cell? ⟨w.heap.size, 4, none⟩ = some (.int .i64 s.quantum) ∧ w'.cell? ⟨w.heap.size, 5, none⟩ = some (.int .i64 s.visits) ∧ w'.cell? ⟨w.heap.size + 1, 2, none⟩ = some (.int .i64 x.long)) (go_keep)
        (first
          | (go_at_call 64
             refine (HWq.out _).mono ?_
             rintro e w2 ⟨rfl, hb2⟩
             have z0 := bkeep hb2 y0
             have z1 := bkeep hb2 y1
             have z2 := bkeep hb2 y2
             have z3 := bkeep hb2 y3
             have z4 := bkeep hb2 y4
             have z5 := bkeep hb2 y5
             have z6 := bkeep hb2 x2
             have HB2 := hide ((below_drew' HB1.out).trans (hb2.mono HB1.out.size))
             clear hb2))
      all_goals
        go_wp2_with fail
        go_ret
        exact ⟨by rw [HQ.out]; rfl, HB2.out⟩
    · have HQ := hide (show T = 0 by rw [HT.out, if_neg]; intro h; exact hr (HOk.out.1 h).2)
      have HR := hide hr
      clear hr
      go_wp2
      all_goals first
        | (exfalso; have := HR.out; omega)
        | (go_ret; exact ⟨by rw [HQ.out]; rfl, HB1.out⟩)
end Go.Proofs.Ytgfogoplmokilaa
