/- Sets of bytes, by the program: two joined. Conditions: those of each theorem. -/
import Derived.Test.YtgfogoplmokilaaCls2
namespace Go.Proofs.Ytgfogoplmokilaa
open Go.RowKit
set_option linter.unusedVariables false

theorem below_dr {B : Nat} {a b : World} (h : Below B a b) : Below B a b.drew := ⟨h.os, h.tape, h.output, h.size, h.block⟩
set_option maxRecDepth 100000 in
set_option maxHeartbeats 1600000 in
theorem or_c (x0 x1 x2 x3 y0 y1 y2 y3 : Int) (w : World) : Calls Try.prog 151 #[.agg (setA x0 x1 x2 x3), .agg (setA y0 y1 y2 y3)] w (RetSet w) := by
  unfold setA
  go_enter Try.func151, Try.ntmps151
  go_wp2
  go_loopw [5, 6] (fun _ i wr => ∃ k : Nat, k ≤ 4 ∧ i = .int .i64 k ∧ Hid (∃ a b c d, Blk wr w.heap.size 183 (setA a b c d)) ∧ Hid (Blk wr (w.heap.size + 1) 183 (setA y0 y1 y2 y3)) ∧ Hid (Blk wr (w.heap.size + 2) 183 (setA 0 0 0 0)) ∧ Hid (Below w.heap.size w wr)) (fun _ i _ => 4 - (intOf i).toNat)
  case atStart => exact ⟨0, by omega, rfl, hide ⟨x0, x1, x2, x3, ((Blk.new _ _ _).alloc _).alloc _⟩, hide ((Blk.new' (by simp)).alloc _), hide (Blk.new' (by simp)), hide (((below_alloc _ _).alloc (by simp) _).alloc (by simp; omega) _)⟩
  case round =>
    obtain ⟨k, hk, rfl, hb, hy, hz, hbel⟩ := hrel
    obtain ⟨a, b, c, d, hb⟩ := hb.out
    have HB := hide hb
    obtain ⟨⟨g0, g1, g2, g3⟩, f0, f1, f2, f3⟩ := hb.four
    clear hb
    by_cases hle : k < 4
    · obtain ⟨⟨q0, q1, q2, q3⟩, _⟩ := hy.out.four
      have h4 : k = 0 ∨ k = 1 ∨ k = 2 ∨ k = 3 := by omega
      rcases h4 with rfl | rfl | rfl | rfl
      · go_wp2_with fail
        go_region
        all_goals
          go_wp2_with fail
          go_roundw
          case rel => exact ⟨1, by omega, rfl, hide ⟨_, b, c, d, (HB.out.set_ 0 _).drew⟩, hide (hy.out.far (by simp) _).drew, hide (hz.out.far (by simp) _).drew, hide (below_dr (hbel.out.setCell (Nat.le_refl _) _))⟩
          case measure => simp [intOf]
      · go_wp2_with fail
        go_region
        all_goals
          go_wp2_with fail
          go_roundw
          case rel => exact ⟨2, by omega, rfl, hide ⟨a, _, c, d, (HB.out.set_ 1 _).drew⟩, hide (hy.out.far (by simp) _).drew, hide (hz.out.far (by simp) _).drew, hide (below_dr (hbel.out.setCell (Nat.le_refl _) _))⟩
          case measure => simp [intOf]
      · go_wp2_with fail
        go_region
        all_goals
          go_wp2_with fail
          go_roundw
          case rel => exact ⟨3, by omega, rfl, hide ⟨a, b, _, d, (HB.out.set_ 2 _).drew⟩, hide (hy.out.far (by simp) _).drew, hide (hz.out.far (by simp) _).drew, hide (below_dr (hbel.out.setCell (Nat.le_refl _) _))⟩
          case measure => simp [intOf]
      · go_wp2_with fail
        go_region
        all_goals
          go_wp2_with fail
          go_roundw
          case rel => exact ⟨4, by omega, rfl, hide ⟨a, b, c, _, (HB.out.set_ 3 _).drew⟩, hide (hy.out.far (by simp) _).drew, hide (hz.out.far (by simp) _).drew, hide (below_dr (hbel.out.setCell (Nat.le_refl _) _))⟩
          case measure => simp [intOf]
    · obtain rfl : k = 4 := by omega
      obtain ⟨⟨z0, z1, z2, z3⟩, e0, e1, e2, e3⟩ := hz.out.four
      go_wp2_with fail
      rw [put4]
      have r2 := hz.out.put [.int .u64 a, .int .u64 b, .int .u64 c, .int .u64 d] rfl
      have r3 := below_put [.int .u64 a, .int .u64 b, .int .u64 c, .int .u64 d] 0 hbel.out (show w.heap.size ≤ w.heap.size + 2 by omega)
      obtain ⟨wz, hz⟩ : ∃ wz, wz = putFrom wr (w.heap.size + 2) 0 [.int .u64 a, .int .u64 b, .int .u64 c, .int .u64 d] := ⟨_, rfl⟩
      rw [← hz] at r2 r3 ⊢
      obtain ⟨⟨g0, g1, g2, g3⟩, _⟩ := r2.four
      refine bodyPost_ret (v := .agg #[.int .u64 a, .int .u64 b, .int .u64 c, .int .u64 d]) (by simp [results, Try.results151, go_sem, g0, g1, g2, g3]) rfl ?_
      exact ⟨a, b, c, d, rfl, r3⟩
end Go.Proofs.Ytgfogoplmokilaa
