/- The walk of PurseNil. Conditions: none. -/
import Derived.Test.YtmkbhejbbhikcaaPurse3
namespace Go.Proofs.Ytmkbhejbbhikcaa
open Go.RowKit
theorem PurseNil_walk (id n : Int) (w : World) : Calls Try.prog 6 #[.int .i64 id, .int .i64 n] w fun e w' => e = .returned (.bool true) ∧ Only NoBlk w w' := by
  go_enter Try.func6, Try.ntmps6
  go_wp2_with (first
    | (go_at_call 21; refine (give_nil _ _).mono ?_; rintro e w' ⟨rfl, rfl⟩)
    | (go_at_call 20; refine (pay_nil _ _ _).mono ?_; rintro e w' ⟨rfl, rfl⟩)
    | (go_at_call 24; refine (clear_nil _ _).mono ?_; rintro e w' ⟨rfl, rfl⟩)
    | (go_at_call 22; refine (has_nil _ _).mono ?_; rintro e w' ⟨rfl, rfl⟩)
    | (go_at_call 31; refine (all_nil _).mono ?_; rintro e w' ⟨rfl, rfl⟩)
    | (go_at_call 26; refine (quantum_nil _).mono ?_; rintro e w' ⟨rfl, rfl⟩)
    | (go_at_call 23; refine (purse_lives _).mono ?_; rintro e w' ⟨rfl, ho⟩))
  go_ret
  exact ⟨rfl, ho⟩
end Go.Proofs.Ytmkbhejbbhikcaa
