/- Same of two lists of numbers that read the same. Conditions: those of each theorem. -/
import Derived.Test.YthnjebpbokmemaaDoorRefIds
namespace Go.Proofs.YthnjebpbokmemaaDoor
open Go.RowKit
set_option linter.unusedVariables false

theorem encI_cell {w : World} {M : Nat → Prop} {A : Option Addr} {L : List Int} (hr : Rd w M A (flat encI L)) (k : Nat) (hk : k < L.length) : ∃ b o, A = some ⟨b, o, none⟩ ∧ b < w.heap.size ∧ w.cell? ⟨b, o + k, none⟩ = some (.int .i64 (nth L k)) := by
  obtain ⟨b, o, hA, _, hb, hc⟩ := hr.at_ (j := k) (by rw [encI_len]; exact hk)
  refine ⟨b, o, hA, hb, ?_⟩
  rw [hc k (by rw [encI_len]; exact hk), flat_encI, nth_of_lt hk]
  simp [hk]
end Go.Proofs.YthnjebpbokmemaaDoor
