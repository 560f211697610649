/- All cells of a block stored anew, one by one. Conditions: those of each theorem. -/
import Derived.Test.YtdmdohjdmnmabaaGreatMem
namespace Go.Proofs.YtdmdohjdmnmabaaGreat
open Go.RowKit
set_option linter.unusedVariables false

def putFrom (w : World) (g : Nat) : Nat → List Value → World
  | _, [] => w
  | i, v :: r => putFrom (w.setCell ⟨g, i, none⟩ v) g (i + 1) r
def setFrom (cs : Array Value) : Nat → List Value → Array Value
  | _, [] => cs
  | i, v :: r => setFrom (cs.setIfInBounds i v) (i + 1) r
theorem setFrom_list : ∀ (vs pre old : List Value), vs.length = old.length → setFrom (pre ++ old).toArray pre.length vs = (pre ++ vs).toArray
  | [], pre, old, h => by
    obtain rfl : old = [] := List.eq_nil_of_length_eq_zero (by simpa using h.symm)
    rfl
  | v :: r, pre, [], h => by simp at h
  | v :: r, pre, o :: q, h => by
    have e : (pre ++ o :: q).toArray.setIfInBounds pre.length v = ((pre ++ [v]) ++ q).toArray := by
      apply Array.toList_inj.1
      simp
    have := setFrom_list r (pre ++ [v]) q (by simpa using h)
    rw [setFrom, e]
    simp at this ⊢
    exact this
section
variable {w w0 : World} {g : Nat} {t : TypeId} {cs : Array Value}
theorem Blk.putFrom_ (vs : List Value) (i : Nat) (h : Blk w g t cs) : Blk (putFrom w g i vs) g t (setFrom cs i vs) := by
  induction vs generalizing w i cs with
  | nil => exact h
  | cons v r ih => exact ih (i + 1) (h.set_ i v)
theorem Blk.put (vs : List Value) (h : Blk w g t cs) (hl : vs.length = cs.size) : Blk (putFrom w g 0 vs) g t vs.toArray := by
  have h1 := h.putFrom_ vs 0
  have e : setFrom cs 0 vs = vs.toArray := by
    have := setFrom_list vs [] cs.toList (by simpa using hl)
    simpa using this
  rw [e] at h1
  exact h1
theorem only_put (vs : List Value) (i : Nat) (w : World) (g : Nat) : Only (· = g) w (putFrom w g i vs) := by
  induction vs generalizing w i with
  | nil => exact Only.refl _ _
  | cons v r ih => exact ((Only.refl (· = g) w).setCell (Or.inl rfl) v).trans (ih (i + 1) _)
theorem below_put {B : Nat} (vs : List Value) (i : Nat) (h : Below B w0 w) (hg : B ≤ g) : Below B w0 (putFrom w g i vs) := by
  induction vs generalizing w i with
  | nil => exact h
  | cons v r ih => exact ih (i + 1) (h.setCell hg v)
theorem put_size (vs : List Value) (i : Nat) : (putFrom w g i vs).heap.size = w.heap.size := by
  induction vs generalizing w i with
  | nil => rfl
  | cons v r ih => rw [putFrom, ih]; simp
end
section
variable (w : World) (g : Nat) (a b c d e f h : Value)
theorem put3 : ((w.setCell ⟨g, 0, none⟩ a).setCell ⟨g, 1, none⟩ b).setCell ⟨g, 2, none⟩ c = putFrom w g 0 [a, b, c] := rfl
theorem put4 : (((w.setCell ⟨g, 0, none⟩ a).setCell ⟨g, 1, none⟩ b).setCell ⟨g, 2, none⟩ c).setCell ⟨g, 3, none⟩ d = putFrom w g 0 [a, b, c, d] := rfl
theorem put5 : ((((w.setCell ⟨g, 0, none⟩ a).setCell ⟨g, 1, none⟩ b).setCell ⟨g, 2, none⟩ c).setCell ⟨g, 3, none⟩ d).setCell ⟨g, 4, none⟩ e = putFrom w g 0 [a, b, c, d, e] := rfl
theorem put6 : (((((w.setCell ⟨g, 0, none⟩ a).setCell ⟨g, 1, none⟩ b).setCell ⟨g, 2, none⟩ c).setCell ⟨g, 3, none⟩ d).setCell ⟨g, 4, none⟩ e).setCell ⟨g, 5, none⟩ f = putFrom w g 0 [a, b, c, d, e, f] := rfl
theorem put7 : ((((((w.setCell ⟨g, 0, none⟩ a).setCell ⟨g, 1, none⟩ b).setCell ⟨g, 2, none⟩ c).setCell ⟨g, 3, none⟩ d).setCell ⟨g, 4, none⟩ e).setCell ⟨g, 5, none⟩ f).setCell ⟨g, 6, none⟩ h = putFrom w g 0 [a, b, c, d, e, f, h] := rfl
end
/-- the cells of a block of four, of seven -/
theorem Blk.four {w : World} {g : Nat} {t : TypeId} {a b c d : Value} (h : Blk w g t #[a, b, c, d]) :
    (w.cell? ⟨g, 0, none⟩ = some a ∧ w.cell? ⟨g, 1, none⟩ = some b ∧ w.cell? ⟨g, 2, none⟩ = some c ∧ w.cell? ⟨g, 3, none⟩ = some d) ∧ w.frozen? ⟨g, 0, none⟩ = false ∧ w.frozen? ⟨g, 1, none⟩ = false ∧ w.frozen? ⟨g, 2, none⟩ = false ∧ w.frozen? ⟨g, 3, none⟩ = false :=
  ⟨⟨by rw [h.cell]; rfl, by rw [h.cell]; rfl, by rw [h.cell]; rfl, by rw [h.cell]; rfl⟩, h.frozen 0, h.frozen 1, h.frozen 2, h.frozen 3⟩
theorem Blk.five {w : World} {g : Nat} {t : TypeId} {a b c d e : Value} (h : Blk w g t #[a, b, c, d, e]) :
    (w.cell? ⟨g, 0, none⟩ = some a ∧ w.cell? ⟨g, 1, none⟩ = some b ∧ w.cell? ⟨g, 2, none⟩ = some c ∧ w.cell? ⟨g, 3, none⟩ = some d ∧ w.cell? ⟨g, 4, none⟩ = some e) ∧ w.frozen? ⟨g, 0, none⟩ = false ∧ w.frozen? ⟨g, 1, none⟩ = false ∧ w.frozen? ⟨g, 2, none⟩ = false ∧ w.frozen? ⟨g, 3, none⟩ = false ∧ w.frozen? ⟨g, 4, none⟩ = false :=
  ⟨⟨by rw [h.cell]; rfl, by rw [h.cell]; rfl, by rw [h.cell]; rfl, by rw [h.cell]; rfl, by rw [h.cell]; rfl⟩, h.frozen 0, h.frozen 1, h.frozen 2, h.frozen 3, h.frozen 4⟩
end Go.Proofs.YtdmdohjdmnmabaaGreat
