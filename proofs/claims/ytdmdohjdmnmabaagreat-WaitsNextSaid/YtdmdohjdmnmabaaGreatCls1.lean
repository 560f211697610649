/- Sets of bytes, by the program: what a set is made of, whatever it holds; and the reader of a set's text. Conditions: those of each theorem. -/
import Derived.Test.YtdmdohjdmnmabaaGreatProgP
import Derived.Test.YtdmdohjdmnmabaaGreatFew
import Derived.Test.YtdmdohjdmnmabaaGreatName
import Derived.Test.YtdmdohjdmnmabaaGreatPut
namespace Go.Proofs.YtdmdohjdmnmabaaGreat
open Go.RowKit
set_option linter.unusedVariables false

/-- four numbers: a set, whatever it holds -/
def setA (a b c d : Int) : Array Value := #[.int .u64 a, .int .u64 b, .int .u64 c, .int .u64 d]
/-- a set is returned -/
def RetSet (w : World) (e : Ending) (w' : World) : Prop := ∃ a b c d : Int, e = .returned (.agg (setA a b c d)) ∧ Below w.heap.size w w'
theorem with_c (a b c d : Int) (x : Nat) (w : World) (hx : x < 256) : Calls Tryz.prog 192 #[.agg (setA a b c d), .int .u8 x] w (RetSet w) := by
  unfold setA
  have hr1 : Int.tmod (x : Int) 64 = ((x % 64 : Nat) : Int) := by rw [Int.tmod_eq_emod_of_nonneg (by omega)]; omega
  have hr2 : (x : Int) % 64 = ((x % 64 : Nat) : Int) := by omega
  have hr3 : x % 64 < 64 := Nat.mod_lt _ (by omega)
  have h4 : x / 64 = 0 ∨ x / 64 = 1 ∨ x / 64 = 2 ∨ x / 64 = 3 := by omega
  rcases h4 with h4 | h4 | h4 | h4
  all_goals
    have hq1 : Int.tdiv (x : Int) 64 = ((x / 64 : Nat) : Int) := by rw [Int.tdiv_eq_ediv_of_nonneg (by omega)]; omega
    have hq2 : (x : Int) / 64 = ((x / 64 : Nat) : Int) := by omega
    rw [h4] at hq1 hq2
    clear h4
    obtain ⟨r, hr⟩ : ∃ r, r = x % 64 := ⟨_, rfl⟩
    rw [← hr] at hr1 hr2 hr3
    clear hr
    go_enter Tryz.func192, Tryz.ntmps192
    go_wp2
    refine bodyPost_ret (v := .agg #[_, _, _, _]) (by simp [results, Tryz.results192, go_sem]; exact ⟨rfl, rfl, rfl, rfl⟩) rfl ?_
    exact ⟨_, _, _, _, rfl, (below_alloc _ _).alloc (by simp) _⟩
set_option maxRecDepth 100000 in
set_option maxHeartbeats 1600000 in
theorem span_c (x y : Nat) (w : World) (hx : x < 256) (hy : y < 256) : Calls Tryz.prog 188 #[.int .u8 x, .int .u8 y] w (RetSet w) := by
  have w0 : IntKind.i64.wrap (x : Int) = (x : Int) := IntWalk.i64_in _ (by omega)
  have w1 : IntKind.i64.wrap (y : Int) = (y : Int) := IntWalk.i64_in _ (by omega)
  go_enter Tryz.func188, Tryz.ntmps188
  go_wp2
  go_loopw [6] (fun i wr => ∃ k : Nat, k ≤ 256 ∧ i = .int .i64 k ∧ Hid (∃ a b c d, Blk wr (w.heap.size + 1) 217 (setA a b c d)) ∧ Hid (Blk wr w.heap.size 217 (setA 0 0 0 0)) ∧ Hid (Below w.heap.size w wr)) (fun i _ => 256 - (intOf i).toNat)
  case atStart => exact ⟨x, by omega, by go_num, hide ⟨0, 0, 0, 0, Blk.new' (by simp)⟩, hide ((Blk.new _ _ _).alloc _), hide ((below_alloc _ _).alloc (by simp) _)⟩
  case round =>
    obtain ⟨k, hk, rfl, hb, hz, hbel⟩ := hrel
    obtain ⟨a, b, c, d, hb⟩ := hb.out
    have hlt := hb.lt
    have HB := hide hb
    obtain ⟨⟨g0, g1, g2, g3⟩, f0, f1, f2, f3⟩ := hb.four
    clear hb
    by_cases hle : k ≤ y
    · have w2 : IntKind.u8.wrap (k : Int) = (k : Int) := by
        have : IntKind.u8.wrap (k : Int) = (k : Int) % 256 := rfl
        omega
      have d1 : decide ((k : Int) ≤ (y : Int)) = true := by simp; omega
      have d2 : decide (k ≤ y) = true := by simp; omega
      have HW := hide (fun (w' : World) => show Calls Tryz.prog 192 #[.agg #[.int .u64 a, .int .u64 b, .int .u64 c, .int .u64 d], .int .u8 k] w' (RetSet w') from with_c a b c d k w' (by omega))
      go_wp2_with fail
      refine (HW.out _).mono ?_
      rintro e w4 ⟨a', b', c', d', rfl, hb4⟩
      unfold setA
      have hzl := hz.out.lt
      have HZ4 := hide (hz.out.below hb4)
      have HB4 := hide (HB.out.below hb4)
      have HL4 := hide (hbel.out.trans (hb4.mono hbel.out.size))
      obtain ⟨⟨g0, g1, g2, g3⟩, f0, f1, f2, f3⟩ := HB4.out.four
      clear hb4
      go_wp2_with fail
      rw [put4]
      have r1 := HB4.out.put [.int .u64 a', .int .u64 b', .int .u64 c', .int .u64 d'] rfl
      have r2 := HZ4.out.only (only_put [.int .u64 a', .int .u64 b', .int .u64 c', .int .u64 d'] 0 w4 (w.heap.size + 1)) (by omega)
      have r3 := below_put [.int .u64 a', .int .u64 b', .int .u64 c', .int .u64 d'] 0 HL4.out (show w.heap.size ≤ w.heap.size + 1 by omega)
      obtain ⟨wz, hz⟩ : ∃ wz, wz = putFrom w4 (w.heap.size + 1) 0 [.int .u64 a', .int .u64 b', .int .u64 c', .int .u64 d'] := ⟨_, rfl⟩
      rw [← hz] at r1 r2 r3 ⊢
      go_roundw
      case rel => exact ⟨k + 1, by omega, by go_num, hide ⟨a', b', c', d', r1⟩, hide r2, hide r3⟩
      case measure => simp [intOf]; omega
    · have d1 : decide ((k : Int) ≤ (y : Int)) = false := by simp; omega
      have d2 : decide (k ≤ y) = false := by simp; omega
      obtain ⟨⟨z0, z1, z2, z3⟩, e0, e1, e2, e3⟩ := hz.out.four
      go_wp2_with fail
      rw [put4]
      have r2 := hz.out.put [.int .u64 a, .int .u64 b, .int .u64 c, .int .u64 d] rfl
      have r3 := below_put [.int .u64 a, .int .u64 b, .int .u64 c, .int .u64 d] 0 hbel.out (Nat.le_refl _)
      obtain ⟨wz, hz⟩ : ∃ wz, wz = putFrom wr w.heap.size 0 [.int .u64 a, .int .u64 b, .int .u64 c, .int .u64 d] := ⟨_, rfl⟩
      rw [← hz] at r2 r3 ⊢
      obtain ⟨⟨g0, g1, g2, g3⟩, _⟩ := r2.four
      refine bodyPost_ret (v := .agg #[.int .u64 a, .int .u64 b, .int .u64 c, .int .u64 d]) (by simp [results, Tryz.results188, go_sem, g0, g1, g2, g3]) rfl ?_
      exact ⟨a, b, c, d, rfl, r3⟩
end Go.Proofs.YtdmdohjdmnmabaaGreat
