/- Parts of a chain of lemmas: Put, Cls1, Cls2, Rdr. Conditions: those of each theorem. -/
import Derived.Test.YtdmdohjdmnmabaaGreatQo01
import Derived.Test.YtdmdohjdmnmabaaGreatQo05
import Derived.Test.YtdmdohjdmnmabaaGreatQo03
namespace Go.Proofs.YtdmdohjdmnmabaaGreat
open Go.RowKit
set_option linter.unusedVariables false

def putFrom (w : World) (g : Nat) : Nat → List Value → World
  | _, [] => w
  | i, v :: r => putFrom (w.setCell ⟨g, i, none⟩ v) g (i + 1) r
def setFrom (cs : Array Value) : Nat → List Value → Array Value
  | _, [] => cs
  | i, v :: r => setFrom (cs.setIfInBounds i v) (i + 1) r
theorem setFrom_list : ∀ (vs pre old : List Value), vs.length = old.length → setFrom (pre ++ old).toArray pre.length vs = (pre ++ vs).toArray
  | [], pre, old, h => by
    obtain rfl : old = [] := List.eq_nil_of_length_eq_zero (by simpa using h.symm)
    rfl
  | v :: r, pre, [], h => by simp at h
  | v :: r, pre, o :: q, h => by
    have e : (pre ++ o :: q).toArray.setIfInBounds pre.length v = ((pre ++ [v]) ++ q).toArray := by
      apply Array.toList_inj.1
      simp
    have := setFrom_list r (pre ++ [v]) q (by simpa using h)
    rw [setFrom, e]
    simp at this ⊢
    exact this
section
variable {w w0 : World} {g : Nat} {t : TypeId} {cs : Array Value}
theorem Blk.putFrom_ (vs : List Value) (i : Nat) (h : Blk w g t cs) : Blk (putFrom w g i vs) g t (setFrom cs i vs) := by
  induction vs generalizing w i cs with
  | nil => exact h
  | cons v r ih => exact ih (i + 1) (h.set_ i v)
theorem Blk.put (vs : List Value) (h : Blk w g t cs) (hl : vs.length = cs.size) : Blk (putFrom w g 0 vs) g t vs.toArray := by
  have h1 := h.putFrom_ vs 0
  have e : setFrom cs 0 vs = vs.toArray := by
    have := setFrom_list vs [] cs.toList (by simpa using hl)
    simpa using this
  rw [e] at h1
  exact h1
theorem only_put (vs : List Value) (i : Nat) (w : World) (g : Nat) : Only (· = g) w (putFrom w g i vs) := by
  induction vs generalizing w i with
  | nil => exact Only.refl _ _
  | cons v r ih => exact ((Only.refl (· = g) w).setCell (Or.inl rfl) v).trans (ih (i + 1) _)
theorem below_put {B : Nat} (vs : List Value) (i : Nat) (h : Below B w0 w) (hg : B ≤ g) : Below B w0 (putFrom w g i vs) := by
  induction vs generalizing w i with
  | nil => exact h
  | cons v r ih => exact ih (i + 1) (h.setCell hg v)
theorem put_size (vs : List Value) (i : Nat) : (putFrom w g i vs).heap.size = w.heap.size := by
  induction vs generalizing w i with
  | nil => rfl
  | cons v r ih => rw [putFrom, ih]; simp
end
section
variable (w : World) (g : Nat) (a b c d e f h : Value)
theorem put3 : ((w.setCell ⟨g, 0, none⟩ a).setCell ⟨g, 1, none⟩ b).setCell ⟨g, 2, none⟩ c = putFrom w g 0 [a, b, c] := rfl
theorem put4 : (((w.setCell ⟨g, 0, none⟩ a).setCell ⟨g, 1, none⟩ b).setCell ⟨g, 2, none⟩ c).setCell ⟨g, 3, none⟩ d = putFrom w g 0 [a, b, c, d] := rfl
theorem put5 : ((((w.setCell ⟨g, 0, none⟩ a).setCell ⟨g, 1, none⟩ b).setCell ⟨g, 2, none⟩ c).setCell ⟨g, 3, none⟩ d).setCell ⟨g, 4, none⟩ e = putFrom w g 0 [a, b, c, d, e] := rfl
theorem put6 : (((((w.setCell ⟨g, 0, none⟩ a).setCell ⟨g, 1, none⟩ b).setCell ⟨g, 2, none⟩ c).setCell ⟨g, 3, none⟩ d).setCell ⟨g, 4, none⟩ e).setCell ⟨g, 5, none⟩ f = putFrom w g 0 [a, b, c, d, e, f] := rfl
theorem put7 : ((((((w.setCell ⟨g, 0, none⟩ a).setCell ⟨g, 1, none⟩ b).setCell ⟨g, 2, none⟩ c).setCell ⟨g, 3, none⟩ d).setCell ⟨g, 4, none⟩ e).setCell ⟨g, 5, none⟩ f).setCell ⟨g, 6, none⟩ h = putFrom w g 0 [a, b, c, d, e, f, h] := rfl
end
/-- the cells of a block of four, of seven -/
theorem Blk.four {w : World} {g : Nat} {t : TypeId} {a b c d : Value} (h : Blk w g t #[a, b, c, d]) :
    (w.cell? ⟨g, 0, none⟩ = some a ∧ w.cell? ⟨g, 1, none⟩ = some b ∧ w.cell? ⟨g, 2, none⟩ = some c ∧ w.cell? ⟨g, 3, none⟩ = some d) ∧ w.frozen? ⟨g, 0, none⟩ = false ∧ w.frozen? ⟨g, 1, none⟩ = false ∧ w.frozen? ⟨g, 2, none⟩ = false ∧ w.frozen? ⟨g, 3, none⟩ = false :=
  ⟨⟨by rw [h.cell]; rfl, by rw [h.cell]; rfl, by rw [h.cell]; rfl, by rw [h.cell]; rfl⟩, h.frozen 0, h.frozen 1, h.frozen 2, h.frozen 3⟩
theorem Blk.five {w : World} {g : Nat} {t : TypeId} {a b c d e : Value} (h : Blk w g t #[a, b, c, d, e]) :
    (w.cell? ⟨g, 0, none⟩ = some a ∧ w.cell? ⟨g, 1, none⟩ = some b ∧ w.cell? ⟨g, 2, none⟩ = some c ∧ w.cell? ⟨g, 3, none⟩ = some d ∧ w.cell? ⟨g, 4, none⟩ = some e) ∧ w.frozen? ⟨g, 0, none⟩ = false ∧ w.frozen? ⟨g, 1, none⟩ = false ∧ w.frozen? ⟨g, 2, none⟩ = false ∧ w.frozen? ⟨g, 3, none⟩ = false ∧ w.frozen? ⟨g, 4, none⟩ = false :=
  ⟨⟨by rw [h.cell]; rfl, by rw [h.cell]; rfl, by rw [h.cell]; rfl, by rw [h.cell]; rfl, by rw [h.cell]; rfl⟩, h.frozen 0, h.frozen 1, h.frozen 2, h.frozen 3, h.frozen 4⟩
end Go.Proofs.YtdmdohjdmnmabaaGreat
namespace Go.Proofs.YtdmdohjdmnmabaaGreat
open Go.RowKit
set_option linter.unusedVariables false

/-- four numbers: a set, whatever it holds -/
def setA (a b c d : Int) : Array Value := #[.int .u64 a, .int .u64 b, .int .u64 c, .int .u64 d]
/-- a set is returned -/
def RetSet (w : World) (e : Ending) (w' : World) : Prop := ∃ a b c d : Int, e = .returned (.agg (setA a b c d)) ∧ Below w.heap.size w w'
theorem with_c (a b c d : Int) (x : Nat) (w : World) (hx : x < 256) : Calls Tryz.prog 192 #[.agg (setA a b c d), .int .u8 x] w (RetSet w) := by
  unfold setA
  have hr1 : Int.tmod (x : Int) 64 = ((x % 64 : Nat) : Int) := by rw [Int.tmod_eq_emod_of_nonneg (by omega)]; omega
  have hr2 : (x : Int) % 64 = ((x % 64 : Nat) : Int) := by omega
  have hr3 : x % 64 < 64 := Nat.mod_lt _ (by omega)
  have h4 : x / 64 = 0 ∨ x / 64 = 1 ∨ x / 64 = 2 ∨ x / 64 = 3 := by omega
  rcases h4 with h4 | h4 | h4 | h4
  all_goals
    have hq1 : Int.tdiv (x : Int) 64 = ((x / 64 : Nat) : Int) := by rw [Int.tdiv_eq_ediv_of_nonneg (by omega)]; omega
    have hq2 : (x : Int) / 64 = ((x / 64 : Nat) : Int) := by omega
    rw [h4] at hq1 hq2
    clear h4
    obtain ⟨r, hr⟩ : ∃ r, r = x % 64 := ⟨_, rfl⟩
    rw [← hr] at hr1 hr2 hr3
    clear hr
    go_enter Tryz.func192, Tryz.ntmps192
    go_wp2
    refine bodyPost_ret (v := .agg #[_, _, _, _]) (by simp [results, Tryz.results192, go_sem]; exact ⟨rfl, rfl, rfl, rfl⟩) rfl ?_
    exact ⟨_, _, _, _, rfl, (below_alloc _ _).alloc (by simp) _⟩
set_option maxRecDepth 100000 in
set_option maxHeartbeats 1600000 in
theorem span_c (x y : Nat) (w : World) (hx : x < 256) (hy : y < 256) : Calls Tryz.prog 188 #[.int .u8 x, .int .u8 y] w (RetSet w) := by
  have w0 : IntKind.i64.wrap (x : Int) = (x : Int) := IntWalk.i64_in _ (by omega)
  have w1 : IntKind.i64.wrap (y : Int) = (y : Int) := IntWalk.i64_in _ (by omega)
  go_enter Tryz.func188, Tryz.ntmps188
  go_wp2
  go_loopw [6] (fun i wr => ∃ k : Nat, k ≤ 256 ∧ i = .int .i64 k ∧ Hid (∃ a b c d, Blk wr (w.heap.size + 1) 217 (setA a b c d)) ∧ Hid (Blk wr w.heap.size 217 (setA 0 0 0 0)) ∧ Hid (Below w.heap.size w wr)) (fun i _ => 256 - (intOf i).toNat)
  case atStart => exact ⟨x, by omega, by go_num, hide ⟨0, 0, 0, 0, Blk.new' (by simp)⟩, hide ((Blk.new _ _ _).alloc _), hide ((below_alloc _ _).alloc (by simp) _)⟩
  case round =>
    obtain ⟨k, hk, rfl, hb, hz, hbel⟩ := hrel
    obtain ⟨a, b, c, d, hb⟩ := hb.out
    have hlt := hb.lt
    have HB := hide hb
    obtain ⟨⟨g0, g1, g2, g3⟩, f0, f1, f2, f3⟩ := hb.four
    clear hb
    by_cases hle : k ≤ y
    · have w2 : IntKind.u8.wrap (k : Int) = (k : Int) := by
        have : IntKind.u8.wrap (k : Int) = (k : Int) % 256 := rfl
        omega
      have d1 : decide ((k : Int) ≤ (y : Int)) = true := by simp; omega
      have d2 : decide (k ≤ y) = true := by simp; omega
      have HW := hide (fun (w' : World) => show Calls Tryz.prog 192 #[.agg #[.int .u64 a, .int .u64 b, .int .u64 c, .int .u64 d], .int .u8 k] w' (RetSet w') from with_c a b c d k w' (by omega))
      go_wp2_with fail
      refine (HW.out _).mono ?_
      rintro e w4 ⟨a', b', c', d', rfl, hb4⟩
      unfold setA
      have hzl := hz.out.lt
      have HZ4 := hide (hz.out.below hb4)
      have HB4 := hide (HB.out.below hb4)
      have HL4 := hide (hbel.out.trans (hb4.mono hbel.out.size))
      obtain ⟨⟨g0, g1, g2, g3⟩, f0, f1, f2, f3⟩ := HB4.out.four
      clear hb4
      go_wp2_with fail
      rw [put4]
      have r1 := HB4.out.put [.int .u64 a', .int .u64 b', .int .u64 c', .int .u64 d'] rfl
      have r2 := HZ4.out.only (only_put [.int .u64 a', .int .u64 b', .int .u64 c', .int .u64 d'] 0 w4 (w.heap.size + 1)) (by omega)
      have r3 := below_put [.int .u64 a', .int .u64 b', .int .u64 c', .int .u64 d'] 0 HL4.out (show w.heap.size ≤ w.heap.size + 1 by omega)
      obtain ⟨wz, hz⟩ : ∃ wz, wz = putFrom w4 (w.heap.size + 1) 0 [.int .u64 a', .int .u64 b', .int .u64 c', .int .u64 d'] := ⟨_, rfl⟩
      rw [← hz] at r1 r2 r3 ⊢
      go_roundw
      case rel => exact ⟨k + 1, by omega, by go_num, hide ⟨a', b', c', d', r1⟩, hide r2, hide r3⟩
      case measure => simp [intOf]; omega
    · have d1 : decide ((k : Int) ≤ (y : Int)) = false := by simp; omega
      have d2 : decide (k ≤ y) = false := by simp; omega
      obtain ⟨⟨z0, z1, z2, z3⟩, e0, e1, e2, e3⟩ := hz.out.four
      go_wp2_with fail
      rw [put4]
      have r2 := hz.out.put [.int .u64 a, .int .u64 b, .int .u64 c, .int .u64 d] rfl
      have r3 := below_put [.int .u64 a, .int .u64 b, .int .u64 c, .int .u64 d] 0 hbel.out (Nat.le_refl _)
      obtain ⟨wz, hz⟩ : ∃ wz, wz = putFrom wr w.heap.size 0 [.int .u64 a, .int .u64 b, .int .u64 c, .int .u64 d] := ⟨_, rfl⟩
      rw [← hz] at r2 r3 ⊢
      obtain ⟨⟨g0, g1, g2, g3⟩, _⟩ := r2.four
      refine bodyPost_ret (v := .agg #[.int .u64 a, .int .u64 b, .int .u64 c, .int .u64 d]) (by simp [results, Tryz.results188, go_sem, g0, g1, g2, g3]) rfl ?_
      exact ⟨a, b, c, d, rfl, r3⟩
end Go.Proofs.YtdmdohjdmnmabaaGreat
namespace Go.Proofs.YtdmdohjdmnmabaaGreat
open Go.RowKit
set_option linter.unusedVariables false

theorem spanX_c (x y : Nat) (w : World) (hx : x < 256) (hy : y < 256) : Calls Tryz.prog 180 #[.int .u8 x, .int .u8 y] w (RetSet w) := by
  have HS := hide (fun (w' : World) => span_c x y w' hx hy)
  go_enter Tryz.func180, Tryz.ntmps180
  go_wp2_with fail
  refine (HS.out _).mono ?_
  rintro e w4 ⟨a, b, c, d, rfl, hb⟩
  unfold setA
  have HB := hide hb
  have hB := (Blk.new w 217 (setA 0 0 0 0)).below hb
  have HZ := hide hB
  obtain ⟨⟨g0, g1, g2, g3⟩, f0, f1, f2, f3⟩ := hB.four
  clear hb hB
  go_wp2_with fail
  rw [put4]
  have r2 := HZ.out.put [.int .u64 a, .int .u64 b, .int .u64 c, .int .u64 d] rfl
  have r3 := below_put [.int .u64 a, .int .u64 b, .int .u64 c, .int .u64 d] 0 ((below_alloc w _).trans (HB.out.mono (by simp))) (Nat.le_refl w.heap.size)
  obtain ⟨wz, hz⟩ : ∃ wz, wz = putFrom w4 w.heap.size 0 [.int .u64 a, .int .u64 b, .int .u64 c, .int .u64 d] := ⟨_, rfl⟩
  rw [← hz] at r2 r3 ⊢
  obtain ⟨⟨g0, g1, g2, g3⟩, _⟩ := r2.four
  refine bodyPost_ret (v := .agg #[.int .u64 a, .int .u64 b, .int .u64 c, .int .u64 d]) (by simp [results, Tryz.results180, go_sem, g0, g1, g2, g3]) rfl ?_
  exact ⟨a, b, c, d, rfl, r3⟩
theorem single_c (x : Nat) (w : World) (hx : x < 256) : Calls Tryz.prog 182 #[.int .u8 x] w (RetSet w) := by
  have HS := hide (fun (w' : World) => spanX_c x x w' hx hx)
  go_enter Tryz.func182, Tryz.ntmps182
  go_wp2_with fail
  refine (HS.out _).mono ?_
  rintro e w4 ⟨a, b, c, d, rfl, hb⟩
  unfold setA
  have HB := hide hb
  have hB := (Blk.new w 217 (setA 0 0 0 0)).below hb
  have HZ := hide hB
  obtain ⟨⟨g0, g1, g2, g3⟩, f0, f1, f2, f3⟩ := hB.four
  clear hb hB
  go_wp2_with fail
  rw [put4]
  have r2 := HZ.out.put [.int .u64 a, .int .u64 b, .int .u64 c, .int .u64 d] rfl
  have r3 := below_put [.int .u64 a, .int .u64 b, .int .u64 c, .int .u64 d] 0 ((below_alloc w _).trans (HB.out.mono (by simp))) (Nat.le_refl w.heap.size)
  obtain ⟨wz, hz⟩ : ∃ wz, wz = putFrom w4 w.heap.size 0 [.int .u64 a, .int .u64 b, .int .u64 c, .int .u64 d] := ⟨_, rfl⟩
  rw [← hz] at r2 r3 ⊢
  obtain ⟨⟨g0, g1, g2, g3⟩, _⟩ := r2.four
  refine bodyPost_ret (v := .agg #[.int .u64 a, .int .u64 b, .int .u64 c, .int .u64 d]) (by simp [results, Tryz.results182, go_sem, g0, g1, g2, g3]) rfl ?_
  exact ⟨a, b, c, d, rfl, r3⟩
set_option maxRecDepth 100000 in
set_option maxHeartbeats 1600000 in
theorem negate_c (x0 x1 x2 x3 : Int) (w : World) : Calls Tryz.prog 197 #[.agg (setA x0 x1 x2 x3)] w (RetSet w) := by
  unfold setA
  go_enter Tryz.func197, Tryz.ntmps197
  go_wp2
  go_loopw [3, 4] (fun _ i wr => ∃ k : Nat, k ≤ 4 ∧ i = .int .i64 k ∧ Hid (∃ a b c d, Blk wr w.heap.size 217 (setA a b c d)) ∧ Hid (Blk wr (w.heap.size + 1) 217 (setA 0 0 0 0)) ∧ Hid (Below w.heap.size w wr)) (fun _ i _ => 4 - (intOf i).toNat)
  case atStart => exact ⟨0, by omega, rfl, hide ⟨x0, x1, x2, x3, (Blk.new _ _ _).alloc _⟩, hide (Blk.new' (by simp)), hide ((below_alloc _ _).alloc (by simp) _)⟩
  case round =>
    obtain ⟨k, hk, rfl, hb, hz, hbel⟩ := hrel
    obtain ⟨a, b, c, d, hb⟩ := hb.out
    have HB := hide hb
    obtain ⟨⟨g0, g1, g2, g3⟩, f0, f1, f2, f3⟩ := hb.four
    clear hb
    by_cases hle : k < 4
    · have h4 : k = 0 ∨ k = 1 ∨ k = 2 ∨ k = 3 := by omega
      rcases h4 with rfl | rfl | rfl | rfl
      all_goals
        go_wp2_with fail
        go_roundw
        case rel =>
          first
            | exact ⟨1, by omega, rfl, hide ⟨_, b, c, d, HB.out.set_ 0 _⟩, hide (hz.out.far (by simp) _), hide (hbel.out.setCell (Nat.le_refl _) _)⟩
            | exact ⟨2, by omega, rfl, hide ⟨a, _, c, d, HB.out.set_ 1 _⟩, hide (hz.out.far (by simp) _), hide (hbel.out.setCell (Nat.le_refl _) _)⟩
            | exact ⟨3, by omega, rfl, hide ⟨a, b, _, d, HB.out.set_ 2 _⟩, hide (hz.out.far (by simp) _), hide (hbel.out.setCell (Nat.le_refl _) _)⟩
            | exact ⟨4, by omega, rfl, hide ⟨a, b, c, _, HB.out.set_ 3 _⟩, hide (hz.out.far (by simp) _), hide (hbel.out.setCell (Nat.le_refl _) _)⟩
        case measure => simp [intOf]
    · obtain rfl : k = 4 := by omega
      obtain ⟨⟨z0, z1, z2, z3⟩, e0, e1, e2, e3⟩ := hz.out.four
      go_wp2_with fail
      rw [put4]
      have r2 := hz.out.put [.int .u64 a, .int .u64 b, .int .u64 c, .int .u64 d] rfl
      have r3 := below_put [.int .u64 a, .int .u64 b, .int .u64 c, .int .u64 d] 0 hbel.out (show w.heap.size ≤ w.heap.size + 1 by omega)
      obtain ⟨wz, hz⟩ : ∃ wz, wz = putFrom wr (w.heap.size + 1) 0 [.int .u64 a, .int .u64 b, .int .u64 c, .int .u64 d] := ⟨_, rfl⟩
      rw [← hz] at r2 r3 ⊢
      obtain ⟨⟨g0, g1, g2, g3⟩, _⟩ := r2.four
      refine bodyPost_ret (v := .agg #[.int .u64 a, .int .u64 b, .int .u64 c, .int .u64 d]) (by simp [results, Tryz.results197, go_sem, g0, g1, g2, g3]) rfl ?_
      exact ⟨a, b, c, d, rfl, r3⟩
end Go.Proofs.YtdmdohjdmnmabaaGreat
namespace Go.Proofs.YtdmdohjdmnmabaaGreat
open Go.RowKit
set_option linter.unusedVariables false

/-- the reader at block r: the text, the place, what is wrong -/
def RAt (w : World) (r : Nat) (s : ByteArray) (at_ : Nat) (bad : Nat) : Prop := Blk w r 257 #[.string s, .int .i64 at_, .int .i64 bad]
theorem RAt.cells {w : World} {r : Nat} {s : ByteArray} {a b : Nat} (h : RAt w r s a b) :
    (w.cell? ⟨r, 0, none⟩ = some (.string s) ∧ w.cell? ⟨r, 1, none⟩ = some (.int .i64 a) ∧ w.cell? ⟨r, 2, none⟩ = some (.int .i64 b)) ∧ w.frozen? ⟨r, 0, none⟩ = false ∧ w.frozen? ⟨r, 1, none⟩ = false ∧ w.frozen? ⟨r, 2, none⟩ = false := Blk.three h
theorem RAt.lt {w : World} {r : Nat} {s : ByteArray} {a b : Nat} (h : RAt w r s a b) : r < w.heap.size := Blk.lt h
theorem RAt.at_ {w : World} {r : Nat} {s : ByteArray} {a b : Nat} (h : RAt w r s a b) (k : Nat) : RAt (w.setCell ⟨r, 1, none⟩ (.int .i64 k)) r s k b := Blk.set_ h 1 _
theorem RAt.bad {w : World} {r : Nat} {s : ByteArray} {a b : Nat} (h : RAt w r s a b) (k : Nat) : RAt (w.setCell ⟨r, 2, none⟩ (.int .i64 k)) r s a k := Blk.set_ h 2 _
theorem RAt.only {w w' : World} {r : Nat} {s : ByteArray} {a b : Nat} {S : Nat → Prop} (h : RAt w r s a b) (k : Only S w w') (hr : ¬ S r) : RAt w' r s a b := Blk.only h k hr
theorem RAt.drewN {w : World} {r : Nat} {s : ByteArray} {a b : Nat} (h : RAt w r s a b) (n : Nat) : RAt (w.drewN n) r s a b := Blk.drewN h n
/-- whether a byte stands at the place -/
def isL (s : ByteArray) (at_ : Nat) (b : UInt8) : Bool := decide (s.data.toList[at_]? = some b)
theorem isL_no {s : ByteArray} {k : Nat} {b : UInt8} (h : s.size ≤ k) : isL s k b = false := by
  unfold isL
  rw [List.getElem?_eq_none (by rw [ba_size]; exact h)]
  rfl
theorem isL_yes {s : ByteArray} {k : Nat} {b : UInt8} (h : k < s.size) : isL s k b = decide (s[k] = b) := by
  unfold isL
  rw [ba_get s k h]
  simp
theorem u8_eq {a b : UInt8} : decide (a = b) = ((a.toNat : Int) == (b.toNat : Int)) := by
  rw [Bool.eq_iff_iff]
  simp
  rw [Int.ofNat_inj]
  exact UInt8.toNat_inj.symm
set_option maxRecDepth 100000 in
set_option maxHeartbeats 1600000 in
theorem is_c {w : World} {r : Nat} {s : ByteArray} {a b : Nat} (c : UInt8) (h : RAt w r s a b) (hs : s.size ≤ 9223372036854775807) (ha : a ≤ s.size) :
    Calls Tryz.prog 193 #[.pointer (some ⟨r, 0, none⟩), .int .u8 c.toNat] w fun e w' => e = .returned (.bool (isL s a c)) ∧ ∃ n, w' = w.drewN n := by
  obtain ⟨⟨g0, g1, g2⟩, _⟩ := h.cells
  by_cases hlt : a < s.size
  · have HI := hide ((isL_yes (b := c) hlt).trans u8_eq)
    have d1 : decide ((a : Int) < (s.size : Int)) = true := by simp; omega
    have j1 : (0 : Int) ≤ (a : Int) := by omega
    have j2 : (a : Int) < (s.size : Int) := by omega
    clear h
    go_enter Tryz.func193, Tryz.ntmps193
    go_wp2_with fail
    go_quiet (fail)
    go_wp2
    go_ret
    exact ⟨by rw [HI.out]; rfl, _, rfl⟩
  · have HI := hide (isL_no (b := c) (show s.size ≤ a by omega))
    have d1 : decide ((a : Int) < (s.size : Int)) = false := by simp; omega
    clear h
    go_enter Tryz.func193, Tryz.ntmps193
    go_wp2_with fail
    go_quiet (fail)
    go_wp2
    go_ret
    exact ⟨by rw [HI.out]; rfl, _, rfl⟩
set_option maxRecDepth 100000 in
set_option maxHeartbeats 1600000 in
theorem stop_c {w : World} {r : Nat} {s : ByteArray} {a b : Nat} (h : RAt w r s a b) (hs : s.size ≤ 9223372036854775807) (ha : a ≤ s.size) :
    Calls Tryz.prog 194 #[.pointer (some ⟨r, 0, none⟩)] w fun e w' => e = .returned (.tuple #[]) ∧ RAt w' r s a (if a = s.size then 3 else 2) ∧ Only (· = r) w w' := by
  obtain ⟨⟨g0, g1, g2⟩, f0, f1, f2⟩ := h.cells
  have H := hide h
  clear h
  by_cases hlt : a = s.size
  · subst hlt
    have d1 : decide ((s.size : Int) ≤ (s.size : Int)) = true := by simp
    rw [if_pos rfl]
    go_enter Tryz.func194, Tryz.ntmps194
    go_wp2_with fail
    go_quiet (fail)
    go_wp2
    go_end0
    exact ⟨rfl, (((H.out.bad 2).drewN _).at_ s.size).bad 3, ((((only_set w r 2 _).drewN _).setCell (Or.inl rfl) _).setCell (Or.inl rfl) _)⟩
  · have d1 : decide ((s.size : Int) ≤ (a : Int)) = false := by simp; omega
    rw [if_neg hlt]
    go_enter Tryz.func194, Tryz.ntmps194
    go_wp2_with fail
    go_quiet (fail)
    go_wp2
    go_end0
    exact ⟨rfl, (H.out.bad 2).drewN _, (only_set w r 2 _).drewN _⟩
/-- what stands from a place on -/
def suf (s : ByteArray) (a : Nat) : List UInt8 := s.data.toList.drop a
theorem suf_nil {s : ByteArray} {a : Nat} (h : s.size ≤ a) : suf s a = [] := List.drop_eq_nil_of_le (by rw [ba_size]; exact h)
theorem suf_cons {s : ByteArray} {a : Nat} (h : a < s.size) : suf s a = s[a] :: suf s (a + 1) := by
  unfold suf
  rw [List.drop_eq_getElem_cons (by rw [ba_size]; exact h)]
  rfl
theorem suf_drop (s : ByteArray) (a n : Nat) : (suf s a).drop n = suf s (a + n) := by unfold suf; rw [List.drop_drop]
theorem suf_len (s : ByteArray) (a : Nat) : (suf s a).length = s.size - a := by unfold suf; rw [List.length_drop, ba_size]
/-- a sign is read -/
def RetSign (w : World) (r : Nat) (s : ByteArray) (a : Nat) (e : Ending) (w' : World) : Prop :=
  e = .returned (.int .u8 (signS (suf s a)).2.1.toNat) ∧ RAt w' r s (a + (signS (suf s a)).1) (signS (suf s a)).2.2 ∧ Only (· = r) w w'
theorem isq {w : World} {r : Nat} {s : ByteArray} {a b : Nat} (c : UInt8) (n : Int) (v : Bool) (h : RAt w r s a b) (hs : s.size ≤ 9223372036854775807) (ha : a ≤ s.size) (hn : (c.toNat : Int) = n) (hv : isL s a c = v) :
    Calls Tryz.prog 193 #[.pointer (some ⟨r, 0, none⟩), .int .u8 n] w fun e w' => e = .returned (.bool v) ∧ ∃ n, w' = w.drewN n := by
  subst hn hv
  exact is_c c h hs ha
/-- a byte's number stands at the place, or not -/
def IsV (s : ByteArray) (a : Nat) (n : Int) (v : Bool) : Prop := 0 ≤ n ∧ n < 256 ∧ isL s a (UInt8.ofNat n.toNat) = v
theorem isv_q {w : World} {r : Nat} {s : ByteArray} {a b : Nat} {n : Int} {v : Bool} (h : RAt w r s a b) (hs : s.size ≤ 9223372036854775807) (ha : a ≤ s.size) (hv : IsV s a n v) :
    Calls Tryz.prog 193 #[.pointer (some ⟨r, 0, none⟩), .int .u8 n] w fun e w' => e = .returned (.bool v) ∧ ∃ n, w' = w.drewN n := by
  obtain ⟨h0, h1, h2⟩ := hv
  refine isq (UInt8.ofNat n.toNat) n v h hs ha ?_ h2
  rw [UInt8.toNat_ofNat_of_lt' (show n.toNat < UInt8.size from by show n.toNat < 256; omega)]
  omega
set_option maxRecDepth 100000 in
set_option maxHeartbeats 3200000 in
theorem sign_c {w : World} {r : Nat} {s : ByteArray} {a : Nat} (h : RAt w r s a 0) (hs : s.size ≤ 9223372036854775807) (ha : a ≤ s.size) :
    Calls Tryz.prog 198 #[.pointer (some ⟨r, 0, none⟩)] w (RetSign w r s a) := by
  have H := hide h
  obtain ⟨⟨g0, g1, g2⟩, f0, f1, f2⟩ := h.cells
  have HST := hide (fun (w' : World) (a' : Nat) (h' : RAt w' r s a' 0) (ha' : a' ≤ s.size) => stop_c h' hs ha')
  by_cases h0 : a < s.size
  · by_cases h1 : s[a] = 37
    · have i37 : isL s a 37 = true := by rw [isL_yes h0, h1]; rfl
      have HQ := hide (isq 37 37 true h hs ha rfl i37)
      have w1 : IntKind.i64.wrap ((a : Int) + 1) = (a : Int) + 1 := IntWalk.i64_in _ (by omega)
      clear i37 h
      by_cases h2 : a + 1 < s.size
      · have HR := hide (show signS (suf s a) = (2, s[a + 1], 0) by rw [suf_cons h0, suf_cons h2, h1]; rfl)
        have d1 : decide ((s.size : Int) ≤ (a : Int) + 1) = false := by simp; omega
        have w2 : IntKind.i64.wrap ((a : Int) + 1 + 1) = (a : Int) + 2 := by rw [IntWalk.i64_in _ (by omega)]; omega
        have w3 : IntKind.i64.wrap ((a : Int) + 2 - 1) = (a : Int) + 1 := by rw [IntWalk.i64_in _ (by omega)]; omega
        have w4 : ((a : Int) + 1).toNat = a + 1 := by omega
        have j1 : (0 : Int) ≤ (a : Int) + 1 := by omega
        have j2 : (a : Int) + 1 < (s.size : Int) := by omega
        clear h1
        go_enter Tryz.func198, Tryz.ntmps198
        go_wp2_with fail
        refine HQ.out.mono ?_
        rintro e wq ⟨rfl, n, hq⟩
        have HA := hide (show RAt wq r s a 0 by rw [hq]; exact H.out.drewN n)
        have HO := hide (show Only (· = r) w wq by rw [hq]; exact (Only.refl _ w).drewN n)
        clear hq g0 g1 g2 f0 f1 f2
        obtain ⟨⟨g0, g1, g2⟩, f0, f1, f2⟩ := HA.out.cells
        go_wp2_with fail
        go_quiet (fail)
        go_wp2_with fail
        go_quiet (fail)
        go_wp2_with fail
        go_ret
        unfold RetSign
        rw [HR.out]
        exact ⟨rfl, (((HA.out.at_ (a + 1)).drewN _).at_ (a + 2)).drewN _, (((((HO.out).setCell (Or.inl rfl) _).drewN _).setCell (Or.inl rfl) _).drewN _)⟩
      · have e : a + 1 = s.size := by omega
        have HR := hide (show signS (suf s a) = (1, 0, 3) by rw [suf_cons h0, suf_nil (by omega), h1]; rfl)
        have d1 : decide ((s.size : Int) ≤ (a : Int) + 1) = true := by simp; omega
        have HE := hide e
        clear h1 e
        go_enter Tryz.func198, Tryz.ntmps198
        go_wp2_with fail
        refine HQ.out.mono ?_
        rintro e wq ⟨rfl, n, hq⟩
        have HA := hide (show RAt wq r s a 0 by rw [hq]; exact H.out.drewN n)
        have HO := hide (show Only (· = r) w wq by rw [hq]; exact (Only.refl _ w).drewN n)
        clear hq g0 g1 g2 f0 f1 f2
        obtain ⟨⟨g0, g1, g2⟩, f0, f1, f2⟩ := HA.out.cells
        go_wp2_with fail
        go_quiet (fail)
        go_wp2_with fail
        refine (HST.out _ (a + 1) ((HA.out.at_ (a + 1)).drewN _) (by omega)).mono ?_
        rintro e w9 ⟨rfl, hr9, ho9⟩
        rw [if_pos HE.out] at hr9
        have HR9 := hide hr9
        have HO9 := hide ho9
        clear hr9 ho9
        go_wp2_with fail
        go_ret
        unfold RetSign
        rw [HR.out]
        exact ⟨rfl, HR9.out, ((((HO.out).setCell (Or.inl rfl) _).drewN _)).trans HO9.out⟩
    · have i37 : isL s a 37 = false := by rw [isL_yes h0]; simp [h1]
      have HQ := hide (isq 37 37 false h hs ha rfl i37)
      have HI := hide (fun (w' : World) (n : Int) (v : Bool) (h' : RAt w' r s a 0) (hv : IsV s a n v) => isv_q h' hs ha hv)
      have d1 : decide ((s.size : Int) ≤ (a : Int)) = false := by simp; omega
      have e93 := isL_yes (b := 93) h0
      have e45 := isL_yes (b := 45) h0
      have HE := hide (show ¬ a = s.size by omega)
      clear i37 h
      by_cases h2 : s[a] = 93
      · have HR := hide (show signS (suf s a) = (0, 0, 2) by rw [suf_cons h0, h2]; rfl)
        have v93 : IsV s a 93 true := ⟨by decide, by decide, e93.trans (by rw [h2]; rfl)⟩
        clear h1 h2 e93 e45
        go_enter Tryz.func198, Tryz.ntmps198
        go_wp2_with fail
        refine HQ.out.mono ?_
        rintro e wq ⟨rfl, n, hq⟩
        have HA := hide (show RAt wq r s a 0 by rw [hq]; exact H.out.drewN n)
        have HO := hide (show Only (· = r) w wq by rw [hq]; exact (Only.refl _ w).drewN n)
        clear hq g0 g1 g2 f0 f1 f2
        obtain ⟨⟨g0, g1, g2⟩, f0, f1, f2⟩ := HA.out.cells
        go_wp2_with fail
        go_quiet ((go_at_call 193; exact Calls.quiet_of (HI.out _ _ _ (HA.out.drewN _) (by assumption))))
        go_wp2_with fail
        refine (HST.out _ a (HA.out.drewN _) ha).mono ?_
        rintro e w9 ⟨rfl, hr9, ho9⟩
        rw [if_neg HE.out] at hr9
        have HR9 := hide hr9
        have HO9 := hide ho9
        clear hr9 ho9
        go_wp2_with fail
        go_ret
        unfold RetSign
        rw [HR.out]
        exact ⟨rfl, HR9.out, (HO.out.drewN _).trans HO9.out⟩
      · have v93 : IsV s a 93 false := ⟨by decide, by decide, e93.trans (by simp [h2])⟩
        by_cases h3 : s[a] = 45
        · have HR := hide (show signS (suf s a) = (0, 0, 2) by rw [suf_cons h0, h3]; rfl)
          have v45 : IsV s a 45 true := ⟨by decide, by decide, e45.trans (by rw [h3]; rfl)⟩
          clear h1 h2 h3 e93 e45
          go_enter Tryz.func198, Tryz.ntmps198
          go_wp2_with fail
          refine HQ.out.mono ?_
          rintro e wq ⟨rfl, n, hq⟩
          have HA := hide (show RAt wq r s a 0 by rw [hq]; exact H.out.drewN n)
          have HO := hide (show Only (· = r) w wq by rw [hq]; exact (Only.refl _ w).drewN n)
          clear hq g0 g1 g2 f0 f1 f2
          obtain ⟨⟨g0, g1, g2⟩, f0, f1, f2⟩ := HA.out.cells
          go_wp2_with fail
          go_quiet ((go_at_call 193; exact Calls.quiet_of (HI.out _ _ _ (HA.out.drewN _) (by assumption))))
          go_wp2_with fail
          refine (HST.out _ a (HA.out.drewN _) ha).mono ?_
          rintro e w9 ⟨rfl, hr9, ho9⟩
          rw [if_neg HE.out] at hr9
          have HR9 := hide hr9
          have HO9 := hide ho9
          clear hr9 ho9
          go_wp2_with fail
          go_ret
          unfold RetSign
          rw [HR.out]
          exact ⟨rfl, HR9.out, (HO.out.drewN _).trans HO9.out⟩
        · have HR := hide (show signS (suf s a) = (1, s[a], 0) by rw [suf_cons h0]; simp [signS, h1, h2, h3])
          have v45 : IsV s a 45 false := ⟨by decide, by decide, e45.trans (by simp [h3])⟩
          have w1 : IntKind.i64.wrap ((a : Int) + 1) = (a : Int) + 1 := IntWalk.i64_in _ (by omega)
          have w3 : IntKind.i64.wrap ((a : Int) + 1 - 1) = (a : Int) := by rw [IntWalk.i64_in _ (by omega)]; omega
          have w5 : IntKind.i64.wrap (a : Int) = (a : Int) := IntWalk.i64_in _ (by omega)
          have j1 : (0 : Int) ≤ (a : Int) := by omega
          have j2 : (a : Int) < (s.size : Int) := by omega
          clear h1 h2 h3 e93 e45
          go_enter Tryz.func198, Tryz.ntmps198
          go_wp2_with fail
          refine HQ.out.mono ?_
          rintro e wq ⟨rfl, n, hq⟩
          have HA := hide (show RAt wq r s a 0 by rw [hq]; exact H.out.drewN n)
          have HO := hide (show Only (· = r) w wq by rw [hq]; exact (Only.refl _ w).drewN n)
          clear hq g0 g1 g2 f0 f1 f2
          obtain ⟨⟨g0, g1, g2⟩, f0, f1, f2⟩ := HA.out.cells
          go_wp2_with fail
          go_quiet ((go_at_call 193; exact Calls.quiet_of (HI.out _ _ _ (HA.out.drewN _) (by assumption))))
          go_wp2_with fail
          go_quiet (fail)
          go_wp2_with fail
          go_ret
          unfold RetSign
          rw [HR.out]
          exact ⟨rfl, ((HA.out.drewN _).at_ (a + 1)).drewN _, (((HO.out.drewN _).setCell (Or.inl rfl) _).drewN _)⟩
  · obtain rfl : a = s.size := by omega
    have HQ := hide (isq 37 37 false h hs ha rfl (isL_no (Nat.le_refl _)))
    have HR := hide (show signS (suf s s.size) = (0, 0, 3) by rw [suf_nil (Nat.le_refl _)]; rfl)
    have d1 : decide ((s.size : Int) ≤ (s.size : Int)) = true := by simp
    clear h
    go_enter Tryz.func198, Tryz.ntmps198
    go_wp2_with fail
    refine HQ.out.mono ?_
    rintro e wq ⟨rfl, n, hq⟩
    have HA := hide (show RAt wq r s s.size 0 by rw [hq]; exact H.out.drewN n)
    have HO := hide (show Only (· = r) w wq by rw [hq]; exact (Only.refl _ w).drewN n)
    clear hq g0 g1 g2 f0 f1 f2
    obtain ⟨⟨g0, g1, g2⟩, f0, f1, f2⟩ := HA.out.cells
    go_wp2_with fail
    go_quiet (fail)
    go_wp2_with fail
    refine (HST.out _ s.size (HA.out.drewN _) ha).mono ?_
    rintro e w9 ⟨rfl, hr9, ho9⟩
    rw [if_pos rfl] at hr9
    have HR9 := hide hr9
    have HO9 := hide ho9
    clear hr9 ho9
    go_wp2_with fail
    go_ret
    unfold RetSign
    rw [HR.out]
    exact ⟨rfl, HR9.out, (HO.out.drewN _).trans HO9.out⟩
end Go.Proofs.YtdmdohjdmnmabaaGreat
