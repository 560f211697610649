/- What the methods of turns do (fourth part): Waits, List, New. Conditions: those of each theorem. -/
import Derived.Test.YtmkbhejbbhikcaaTurns2
namespace Go.Proofs.Ytmkbhejbbhikcaa
open Go.RowKit
set_option linter.unusedVariables false
attribute [local go_sem ↓] Go.wp_at_zero Go.wp_at_succ

theorem Waits_nil (id : Int) (w : World) : Calls Try.prog 81 #[.pointer none, .int .i64 id] w fun e w' => e = .returned (.bool false) ∧ w = w' := by
  go_enter Try.func81, Try.ntmps81
  go_wp2
  go_ret
  exact ⟨rfl, rfl⟩
section
variable {w : World} {p : TP} {N : Nat} {s : TS}
set_option maxHeartbeats 800000 in
theorem TList_c (M : Nat → Prop) (hM : ∀ k, M k → k < w.heap.size) (h : TurnsAt w p N s) : Calls Try.prog 82 #[.pointer (some ⟨p.t, 0, none⟩)] w (RetI M s.L w) := by
  have c0 := h.cells.1
  have H := hide h
  have HM := hide hM
  clear h hM
  go_enter Try.func82, Try.ntmps82
  go_wp2_with (first
    | (go_at_call 52; refine (List_c M HM.out H.out.row).mono ?_; rintro e w1 ⟨A1, c1, rfl, hrr⟩; have R := hide hrr; clear hrr))
  go_ret
  exact ⟨A1, c1, rfl, R.out⟩
def TS.waits (s : TS) (id : Int) : Bool := decide (id ∈ s.L) || ((s.who != -1) && (s.who == id))
set_option maxHeartbeats 800000 in
theorem Waits_c (id : Int) (h : TurnsAt w p N s) : Calls Try.prog 81 #[.pointer (some ⟨p.t, 0, none⟩), .int .i64 id] w fun e w' => e = .returned (.bool (s.waits id)) ∧ Only NoBlk w w' := by
  obtain ⟨c0, c1, c2, c3, f2, f3⟩ := h.cells
  have H := hide h
  clear h
  unfold TS.waits
  obtain ⟨d, hd⟩ : ∃ d, d = decide (id ∈ s.L) := ⟨_, rfl⟩
  obtain ⟨x, hx⟩ : ∃ x, (s.who != -1) = x := ⟨_, rfl⟩
  obtain ⟨y, hy⟩ : ∃ y, (s.who == id) = y := ⟨_, rfl⟩
  rw [← hd, hx, hy]
  have Hd := hide hd
  clear hd
  cases d <;> cases x <;> cases y
  all_goals
    go_enter Try.func81, Try.ntmps81
    go_wp2_with (first
      | (go_at_call 63; refine (Has_f id H.out.row).mono ?_; rintro e w1 ⟨he, rfl⟩; rw [← Hd.out] at he; subst he)
      | go_in)
    go_ret
    exact ⟨rfl, Only.refl _ _⟩
end
end Go.Proofs.Ytmkbhejbbhikcaa
