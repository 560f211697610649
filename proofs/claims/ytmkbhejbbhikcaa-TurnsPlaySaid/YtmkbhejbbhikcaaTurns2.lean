/- What the methods of turns do (second part). Conditions: those of each theorem. -/
import Derived.Test.YtmkbhejbbhikcaaTurns
import Derived.Deep.QuietTactic
namespace Go.Proofs.Ytmkbhejbbhikcaa
open Go.RowKit
set_option linter.unusedVariables false
attribute [local go_sem ↓] Go.wp_at_zero Go.wp_at_succ

def TS.can (s : TS) (price : Int) : Bool := if s.who = -1 then false else s.m.can s.who price
def TS.pay (s : TS) (price : Int) : TS := if s.who = -1 then s else { s with m := s.m.pay s.who price }
theorem only_drewN (w : World) (n : Nat) : Only NoBlk w (w.drewN n) := (Only.refl NoBlk w).alike (alike_drewN w n)
theorem PurseM.pay_len (m : PurseM) (id price : Int) : (m.pay id price).l.length = m.l.length := by
  unfold PurseM.pay
  split
  · exact PurseM.put_len _ _ _
  · rfl
def TS.ends (s : TS) (N : Nat) (again : Bool) : Bool := if s.who = -1 then false else if again then comes N s.L s.who else true
def TS.end_ (s : TS) (N : Nat) (again : Bool) : TS := if s.who = -1 then s else if again then { s with who := -1, L := pushL N s.L s.who } else { s with who := -1, m := s.m.clear s.who }
theorem on_at (t : Nat) (v : Int) (w : World) (c2 : w.cell? ⟨t, 2, none⟩ = some (.int .i64 v)) (x : Bool) (hx : (v != -1) = x) : Calls Try.prog 92 #[.pointer (some ⟨t, 0, none⟩)] w fun e w' => e = .returned (.bool x) ∧ w = w' := by
  go_enter Try.func92, Try.ntmps92
  go_wp2
  go_ret
  exact ⟨rfl, rfl⟩
theorem on_nil (w : World) : Calls Try.prog 92 #[.pointer none] w fun e w' => e = .returned (.bool false) ∧ w = w' := by
  go_enter Try.func92, Try.ntmps92
  go_wp2
  go_ret
  exact ⟨rfl, rfl⟩
section
variable {w : World} {p : TP} {N : Nat} {s : TS}
set_option maxHeartbeats 800000 in
theorem TPay_c (price : Int) (h : TurnsAt w p N s) : Calls Try.prog 68 #[.pointer (some ⟨p.t, 0, none⟩), .int .i64 price] w fun e w' => e = .returned (.bool (s.can price)) ∧ TurnsAt w' p N (s.pay price) ∧ Only p.all w w' := by
  obtain ⟨c0, c1, c2, c3, f2, f3⟩ := h.cells
  have hw := h.who
  have H := hide h
  clear h
  unfold TS.can TS.pay
  by_cases h1 : s.who = -1
  · rw [if_pos h1, if_pos h1]
    rw [h1] at c2
    clear h1 hw
    go_enter Try.func68, Try.ntmps68
    go_wp2_with fail
    go_quiet (first
      | (go_at_call 92; refine Calls.quiet_of_same ((on_at p.t (-1) _ ?_ false rfl).mono fun e w' h => ⟨h.1, h.2.symm⟩); exact c2))
    go_wp2
    go_ret
    exact ⟨rfl, H.out.only0 (only_drewN w nq), (only_drewN w nq).mono fun _ _ h => h.elim⟩
  · rw [if_neg h1, if_neg h1]
    have hb1 : (s.who != -1) = true := by simp [h1]
    have hb2 : (s.who == -1) = false := by simp [h1]
    have Hb1 := hide hb1
    clear h1 hw
    go_enter Try.func68, Try.ntmps68
    go_wp2_with fail
    go_region_held3 (fun w' => w'.cell? ⟨p.t, 1, none⟩ = some (.pointer (some ⟨p.qb, 0, none⟩)) ∧ w'.cell? ⟨p.t, 2, none⟩ = some (.int .i64 s.who)) (go_keep)
      (first
        | (go_at_call 92; refine (on_at p.t s.who w.drew c2 true Hb1.out).mono ?_; rintro e w' ⟨rfl, rfl⟩)
        | (go_at_call 20
           refine (Pay_c s.who price H.out.drew.pur H.out.ok).mono ?_
           rintro e w' ⟨rfl, h1, h2⟩
           have R := hide (H.out.drew.purse h1 h2 (H.out.ok.pay _ _) (PurseM.pay_len _ _ _))
           have k1 := R.out.1.cells.2.1
           have k2 := R.out.1.cells.2.2.1))
    go_wp2
    go_ret
    exact ⟨rfl, R.out.1, (Only.refl _ _).drew.trans R.out.2⟩
set_option maxHeartbeats 800000 in
theorem End_c (again : Bool) (h : TurnsAt w p N s) : Calls Try.prog 70 #[.pointer (some ⟨p.t, 0, none⟩), .bool again] w fun e w' => e = .returned (.bool (s.ends N again)) ∧ TurnsAt w' p N (s.end_ N again) ∧ Only p.all w w' := by
  obtain ⟨c0, c1, c2, c3, f2, f3⟩ := h.cells
  have hw := h.who
  have H := hide h
  clear h
  unfold TS.ends TS.end_
  by_cases h1 : s.who = -1
  · rw [if_pos h1, if_pos h1]
    rw [h1] at c2
    clear h1 hw
    go_enter Try.func70, Try.ntmps70
    go_wp2
    go_ret
    exact ⟨rfl, H.out, Only.refl _ _⟩
  · rw [if_neg h1, if_neg h1]
    have hb1 : (s.who != -1) = true := by simp [h1]
    have hb2 : (s.who == -1) = false := by simp [h1]
    have R1 := hide (H.out.set_who (-1) (Or.inl rfl))
    obtain ⟨k0, k1, k2, k3, g2, g3⟩ := R1.out.1.cells
    clear h1 hw
    cases again with
    | true =>
      go_enter Try.func70, Try.ntmps70
      go_wp2_with (first
        | (go_at_call 48; refine (Push_c s.who R1.out.1.row).mono ?_; rintro e w' ⟨rfl, h1, h2⟩)
        | go_in)
      go_ret
      have R := R1.out.1.fifo h1 h2
      exact ⟨rfl, R.1, R1.out.2.trans R.2⟩
    | false =>
      go_enter Try.func70, Try.ntmps70
      go_wp2_with (first
        | (go_at_call 24; refine (Clear_c s.who R1.out.1.pur R1.out.1.ok).mono ?_; rintro e w' ⟨rfl, h1, h2⟩)
        | go_in)
      go_ret
      have R := R1.out.1.purse h1 h2 (R1.out.1.ok.clear _) (PurseM.put_len _ _ _)
      exact ⟨rfl, R.1, R1.out.2.trans R.2⟩
end
theorem TPay_nil (price : Int) (w : World) : Calls Try.prog 68 #[.pointer none, .int .i64 price] w fun e w' => e = .returned (.bool false) ∧ Only NoBlk w w' := by
  go_enter Try.func68, Try.ntmps68
  go_wp2_with fail
  go_quiet (first
      | (go_at_call 92; refine Calls.quiet_of_same ((on_nil _).mono fun e w' h => ⟨h.1, h.2.symm⟩)))
  go_wp2
  go_ret
  exact ⟨rfl, only_drewN w nq⟩
theorem End_nil (again : Bool) (w : World) : Calls Try.prog 70 #[.pointer none, .bool again] w fun e w' => e = .returned (.bool false) ∧ w = w' := by
  go_enter Try.func70, Try.ntmps70
  go_wp2
  go_ret
  exact ⟨rfl, rfl⟩
end Go.Proofs.Ytmkbhejbbhikcaa
