/- Sets of bytes, by the program: two joined, one turned round. Conditions: those of each theorem. -/
import Derived.Test.YtdmdohjdmnmabaaGreatCls1
namespace Go.Proofs.YtdmdohjdmnmabaaGreat
open Go.RowKit
set_option linter.unusedVariables false

theorem spanX_c (x y : Nat) (w : World) (hx : x < 256) (hy : y < 256) : Calls Tryz.prog 180 #[.int .u8 x, .int .u8 y] w (RetSet w) := by
  have HS := hide (fun (w' : World) => span_c x y w' hx hy)
  go_enter Tryz.func180, Tryz.ntmps180
  go_wp2_with fail
  refine (HS.out _).mono ?_
  rintro e w4 ⟨a, b, c, d, rfl, hb⟩
  unfold setA
  have HB := hide hb
  have hB := (Blk.new w 217 (setA 0 0 0 0)).below hb
  have HZ := hide hB
  obtain ⟨⟨g0, g1, g2, g3⟩, f0, f1, f2, f3⟩ := hB.four
  clear hb hB
  go_wp2_with fail
  rw [put4]
  have r2 := HZ.out.put [.int .u64 a, .int .u64 b, .int .u64 c, .int .u64 d] rfl
  have r3 := below_put [.int .u64 a, .int .u64 b, .int .u64 c, .int .u64 d] 0 ((below_alloc w _).trans (HB.out.mono (by simp))) (Nat.le_refl w.heap.size)
  obtain ⟨wz, hz⟩ : ∃ wz, wz = putFrom w4 w.heap.size 0 [.int .u64 a, .int .u64 b, .int .u64 c, .int .u64 d] := ⟨_, rfl⟩
  rw [← hz] at r2 r3 ⊢
  obtain ⟨⟨g0, g1, g2, g3⟩, _⟩ := r2.four
  refine bodyPost_ret (v := .agg #[.int .u64 a, .int .u64 b, .int .u64 c, .int .u64 d]) (by simp [results, Tryz.results180, go_sem, g0, g1, g2, g3]) rfl ?_
  exact ⟨a, b, c, d, rfl, r3⟩
theorem single_c (x : Nat) (w : World) (hx : x < 256) : Calls Tryz.prog 182 #[.int .u8 x] w (RetSet w) := by
  have HS := hide (fun (w' : World) => spanX_c x x w' hx hx)
  go_enter Tryz.func182, Tryz.ntmps182
  go_wp2_with fail
  refine (HS.out _).mono ?_
  rintro e w4 ⟨a, b, c, d, rfl, hb⟩
  unfold setA
  have HB := hide hb
  have hB := (Blk.new w 217 (setA 0 0 0 0)).below hb
  have HZ := hide hB
  obtain ⟨⟨g0, g1, g2, g3⟩, f0, f1, f2, f3⟩ := hB.four
  clear hb hB
  go_wp2_with fail
  rw [put4]
  have r2 := HZ.out.put [.int .u64 a, .int .u64 b, .int .u64 c, .int .u64 d] rfl
  have r3 := below_put [.int .u64 a, .int .u64 b, .int .u64 c, .int .u64 d] 0 ((below_alloc w _).trans (HB.out.mono (by simp))) (Nat.le_refl w.heap.size)
  obtain ⟨wz, hz⟩ : ∃ wz, wz = putFrom w4 w.heap.size 0 [.int .u64 a, .int .u64 b, .int .u64 c, .int .u64 d] := ⟨_, rfl⟩
  rw [← hz] at r2 r3 ⊢
  obtain ⟨⟨g0, g1, g2, g3⟩, _⟩ := r2.four
  refine bodyPost_ret (v := .agg #[.int .u64 a, .int .u64 b, .int .u64 c, .int .u64 d]) (by simp [results, Tryz.results182, go_sem, g0, g1, g2, g3]) rfl ?_
  exact ⟨a, b, c, d, rfl, r3⟩
set_option maxRecDepth 100000 in
set_option maxHeartbeats 1600000 in
theorem negate_c (x0 x1 x2 x3 : Int) (w : World) : Calls Tryz.prog 197 #[.agg (setA x0 x1 x2 x3)] w (RetSet w) := by
  unfold setA
  go_enter Tryz.func197, Tryz.ntmps197
  go_wp2
  go_loopw [3, 4] (fun _ i wr => ∃ k : Nat, k ≤ 4 ∧ i = .int .i64 k ∧ Hid (∃ a b c d, Blk wr w.heap.size 217 (setA a b c d)) ∧ Hid (Blk wr (w.heap.size + 1) 217 (setA 0 0 0 0)) ∧ Hid (Below w.heap.size w wr)) (fun _ i _ => 4 - (intOf i).toNat)
  case atStart => exact ⟨0, by omega, rfl, hide ⟨x0, x1, x2, x3, (Blk.new _ _ _).alloc _⟩, hide (Blk.new' (by simp)), hide ((below_alloc _ _).alloc (by simp) _)⟩
  case round =>
    obtain ⟨k, hk, rfl, hb, hz, hbel⟩ := hrel
    obtain ⟨a, b, c, d, hb⟩ := hb.out
    have HB := hide hb
    obtain ⟨⟨g0, g1, g2, g3⟩, f0, f1, f2, f3⟩ := hb.four
    clear hb
    by_cases hle : k < 4
    · have h4 : k = 0 ∨ k = 1 ∨ k = 2 ∨ k = 3 := by omega
      rcases h4 with rfl | rfl | rfl | rfl
      all_goals
        go_wp2_with fail
        go_roundw
        case rel =>
          first
            | exact ⟨1, by omega, rfl, hide ⟨_, b, c, d, HB.out.set_ 0 _⟩, hide (hz.out.far (by simp) _), hide (hbel.out.setCell (Nat.le_refl _) _)⟩
            | exact ⟨2, by omega, rfl, hide ⟨a, _, c, d, HB.out.set_ 1 _⟩, hide (hz.out.far (by simp) _), hide (hbel.out.setCell (Nat.le_refl _) _)⟩
            | exact ⟨3, by omega, rfl, hide ⟨a, b, _, d, HB.out.set_ 2 _⟩, hide (hz.out.far (by simp) _), hide (hbel.out.setCell (Nat.le_refl _) _)⟩
            | exact ⟨4, by omega, rfl, hide ⟨a, b, c, _, HB.out.set_ 3 _⟩, hide (hz.out.far (by simp) _), hide (hbel.out.setCell (Nat.le_refl _) _)⟩
        case measure => simp [intOf]
    · obtain rfl : k = 4 := by omega
      obtain ⟨⟨z0, z1, z2, z3⟩, e0, e1, e2, e3⟩ := hz.out.four
      go_wp2_with fail
      rw [put4]
      have r2 := hz.out.put [.int .u64 a, .int .u64 b, .int .u64 c, .int .u64 d] rfl
      have r3 := below_put [.int .u64 a, .int .u64 b, .int .u64 c, .int .u64 d] 0 hbel.out (show w.heap.size ≤ w.heap.size + 1 by omega)
      obtain ⟨wz, hz⟩ : ∃ wz, wz = putFrom wr (w.heap.size + 1) 0 [.int .u64 a, .int .u64 b, .int .u64 c, .int .u64 d] := ⟨_, rfl⟩
      rw [← hz] at r2 r3 ⊢
      obtain ⟨⟨g0, g1, g2, g3⟩, _⟩ := r2.four
      refine bodyPost_ret (v := .agg #[.int .u64 a, .int .u64 b, .int .u64 c, .int .u64 d]) (by simp [results, Tryz.results197, go_sem, g0, g1, g2, g3]) rfl ?_
      exact ⟨a, b, c, d, rfl, r3⟩
end Go.Proofs.YtdmdohjdmnmabaaGreat
