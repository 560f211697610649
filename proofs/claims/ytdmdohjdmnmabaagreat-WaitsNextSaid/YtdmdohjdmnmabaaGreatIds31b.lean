/- proj.Ids. Conditions: those of each theorem. -/
import Derived.Test.YtdmdohjdmnmabaaGreatIds31
namespace Go.Proofs.YtdmdohjdmnmabaaGreat
open Go.RowKit Go.Sort
set_option linter.unusedVariables false
theorem Ids_c (M : Nat → Prop) (A : Option Addr) (c : Nat) (l : List Ev) (w : World) (hr : Rd w M A (flat encEv l)) (hn : l.length ≤ 100000) (hM : ∀ k, M k → k < w.heap.size) :
    Calls Tryz.prog 83 #[.slice A l.length c] w fun e w' => Below w.heap.size w w' ∧ ∃ A1 c1, e = .returned (.slice A1 (Lib.compact ((openedL l).mergeSort fun x y => decide (x ≤ y))).length c1) ∧ Rd w' M A1 (flat encI (Lib.compact ((openedL l).mergeSort fun x y => decide (x ≤ y)))) := by
  have HI := hide (ids_c M A c l w hr hn hM)
  clear hr hM
  go_enter Tryz.func83, Tryz.ntmps83
  go_wp2_with fail
  refine HI.out.mono ?_
  rintro e w2 ⟨hb, A1, c1, rfl, hr2⟩
  go_wp2_with fail
  go_ret
  exact ⟨hb, A1, c1, rfl, hr2⟩
end Go.Proofs.YtdmdohjdmnmabaaGreat
