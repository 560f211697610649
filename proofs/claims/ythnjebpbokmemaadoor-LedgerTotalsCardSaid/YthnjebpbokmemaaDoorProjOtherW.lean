/- The walk of ProjOther. Conditions: those of each theorem. -/
import Derived.Test.YthnjebpbokmemaaDoorLives31
namespace Go.Proofs.YthnjebpbokmemaaDoor
open Go.RowKit
set_option linter.unusedVariables false

theorem filt_succ (p : Ev → Bool) (l : List Ev) (k : Nat) (h : k < l.length) : (l.take (k + 1)).filter p = (l.take k).filter p ++ (if p (evAt l k) = true then [evAt l k] else []) := by
  have e : evAt l k = l[k] := by simp [evAt, List.getD, h]
  rw [List.take_succ_eq_append_getElem h, List.filter_append, e]
  cases hp : p l[k] <;> simp [hp]
theorem life_small {id : Int} {l : List Ev} {f : LifeM} (h : lifeGo id 0 l = some f) (hx : ∀ x ∈ l, x.s.size ≤ 100) : f.ins.length ≤ l.length ∧ f.steps.length ≤ l.length := by
  rcases open_or id l with ⟨_, hl⟩ | ⟨k, hk, _, hl⟩
  · rw [h] at hl; cases hl
  · rw [h] at hl
    injection hl with hl
    have := small_fold id (evAt l k).n (clockOf 0 (l.take k)) (l.drop (k + 1)) (fun x hx' => hx x (List.mem_of_mem_drop hx')) (l.drop (k + 1)).length (Nat.le_refl _)
    rw [List.take_length, ← hl] at this
    have h1 := this.ins; have h2 := this.steps
    rw [List.length_drop] at h1 h2
    exact ⟨by omega, by omega⟩
theorem few_texts (l : List Ev) (m : Nat) : ∀ x ∈ fewL l m, x.s.size ≤ 100 := by
  intro x hx
  unfold fewL at hx
  obtain ⟨y, _, rfl⟩ := List.mem_map.1 hx
  show (cutS y.s 24).size ≤ 100
  rw [cutS_size]; omega
theorem few_le (l : List Ev) (m : Nat) : (fewL l m).length ≤ m := by
  unfold fewL
  rw [List.length_map, List.length_take]; omega
end Go.Proofs.YthnjebpbokmemaaDoor
