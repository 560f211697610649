/- lives of layer 31. Conditions: those of each theorem. -/
import Derived.Test.YtdmdohjdmnmabaaGreatSameL
namespace Go.Proofs.YtdmdohjdmnmabaaGreat
open Go.RowKit
set_option linter.unusedVariables false

def litL : List Ev := [⟨1, 0, 0, 5, ⟨#[]⟩, 0, st0⟩, ⟨2, 0, 0, 0, ⟨#[]⟩, 0, st0⟩, ⟨4, 0, 2, 0, ⟨#[111, 107]⟩, 0, st0⟩, ⟨8, 0, 0, 0, ⟨#[]⟩, 0, ⟨5, 0, 1, 0, 0, 0⟩⟩]
theorem litL_life : ∃ f, lifeGo 0 0 litL = some f ∧ f.start = 5 ∧ f.ins = [⟨1, ⟨#[111, 107]⟩, 0, 0⟩, ⟨5, ⟨#[]⟩, 0, 5⟩] := by
  refine ⟨⟨0, 5, [⟨1, ⟨#[111, 107]⟩, 0, 0⟩, ⟨5, ⟨#[]⟩, 0, 5⟩], [⟨5, 0, 1, 0, 0, 0⟩], ⟨#[]⟩ ++ ⟨#[111, 107]⟩, ⟨#[]⟩, false, 0⟩, ?_, rfl, rfl⟩
  simp [litL, lifeGo, opens, addL, life0]
end Go.Proofs.YtdmdohjdmnmabaaGreat
