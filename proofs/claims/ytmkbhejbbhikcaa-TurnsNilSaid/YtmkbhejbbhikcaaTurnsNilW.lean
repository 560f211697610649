/- The walk of TurnsNil. Conditions: none. -/
import Derived.Test.YtmkbhejbbhikcaaTurns5
namespace Go.Proofs.Ytmkbhejbbhikcaa
open Go.RowKit
set_option linter.unusedVariables false

set_option maxHeartbeats 1600000 in
theorem TurnsNil_walk (id n : Int) (again : Bool) (w : World) : Calls Try.prog 17 #[.int .i64 id, .int .i64 n, .bool again] w fun e w' => e = .returned (.bool true) ∧ Only NoBlk w w' := by
  go_enter Try.func17, Try.ntmps17
  go_wp2_with (first
    | (go_at_call 67; refine (Begin_nil _).mono ?_; rintro e w' ⟨rfl, rfl⟩)
    | (go_at_call 79; refine (Whose_nil _).mono ?_; rintro e w' ⟨rfl, rfl⟩)
    | (go_at_call 66; refine (Wake_nil _ _).mono ?_; rintro e w' ⟨rfl, rfl⟩)
    | (go_at_call 68; refine (TPay_nil _ _).mono ?_; rintro e w1 ⟨rfl, ho1⟩)
    | (go_at_call 70; refine (End_nil _ _).mono ?_; rintro e w' ⟨rfl, rfl⟩)
    | (go_at_call 77; refine (Leave_nil _ _).mono ?_; rintro e w' ⟨rfl, rfl⟩)
    | (go_at_call 80; refine (THas_nil _ _).mono ?_; rintro e w' ⟨rfl, rfl⟩)
    | (go_at_call 81; refine (Waits_nil _ _).mono ?_; rintro e w' ⟨rfl, rfl⟩)
    | (go_at_call 82; refine (TList_nil _).mono ?_; rintro e w' ⟨rfl, rfl⟩)
    | (go_at_call 83; refine (Done_nil _).mono ?_; rintro e w' ⟨rfl, rfl⟩)
    | (go_at_call 69; refine (turns_lives _).mono ?_; rintro e w2 ⟨rfl, ho2⟩))
  go_ret
  exact ⟨rfl, ho1.trans ho2⟩
end Go.Proofs.Ytmkbhejbbhikcaa
