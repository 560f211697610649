/- What the methods of turns do (third part). Conditions: those of each theorem. -/
import Derived.Test.YtmkbhejbbhikcaaTurns2
namespace Go.Proofs.Ytmkbhejbbhikcaa
open Go.RowKit
set_option linter.unusedVariables false
attribute [local go_sem ↓] Go.wp_at_zero Go.wp_at_succ

def TS.leaves (s : TS) (id : Int) : Bool := if s.who ≠ -1 ∧ s.who = id then true else decide (id ∈ s.L)
def TS.leave (s : TS) (id : Int) : TS := if s.who ≠ -1 ∧ s.who = id then { s with who := -1, m := s.m.clear s.who } else if id ∈ s.L then { s with L := s.L.erase id, m := s.m.clear id } else s
section
variable {w : World} {p : TP} {N : Nat} {s : TS}
theorem Leave_out (id : Int) (h : TurnsAt w p N s) (x y : Bool) (hx : (s.who != -1) = x) (hy : (s.who == id) = y) (hxy : (x && y) = false) : Calls Try.prog 77 #[.pointer (some ⟨p.t, 0, none⟩), .int .i64 id] w fun e w' => e = .returned (.bool (decide (id ∈ s.L))) ∧ TurnsAt w' p N (if id ∈ s.L then { s with L := s.L.erase id, m := s.m.clear id } else s) ∧ Only p.all w w' := by
  obtain ⟨c0, c1, c2, c3, f2, f3⟩ := h.cells
  have H := hide h
  clear h
  cases x with
  | true =>
    cases y with
    | true => cases hxy
    | false =>
      clear hxy
      by_cases hL : id ∈ s.L
      · rw [if_pos hL]
        have HL := hide hL
        obtain ⟨d, hd⟩ : ∃ d, d = decide (id ∈ s.L) := ⟨_, rfl⟩
        have hd' : d = true := by rw [hd]; simp [hL]
        subst hd'
        rw [← hd]
        have Hd := hide hd
        clear hL hd
        go_enter Try.func77, Try.ntmps77
        go_wp2_with (first
          | (go_at_call 51; refine (Cut_c id H.out.row).mono ?_; rintro e w1 ⟨he, h1, h2⟩; rw [← Hd.out] at he; subst he; have R1 := hide (H.out.fifo h1 h2); obtain ⟨k0, k1, k2, k3, g2, g3⟩ := R1.out.1.cells; clear h1 h2)
          | (go_at_call 24; refine (Clear_c id R1.out.1.pur R1.out.1.ok).mono ?_; rintro e w2 ⟨rfl, h1, h2⟩)
          | go_in)
        go_ret
        have R := R1.out.1.purse h1 h2 (R1.out.1.ok.clear _) (PurseM.put_len _ _ _)
        exact ⟨rfl, R.1, R1.out.2.trans R.2⟩
      · rw [if_neg hL]
        have HL := hide hL
        obtain ⟨d, hd⟩ : ∃ d, d = decide (id ∈ s.L) := ⟨_, rfl⟩
        have hd' : d = false := by rw [hd]; simp [hL]
        subst hd'
        rw [← hd]
        have Hd := hide hd
        clear hL hd
        go_enter Try.func77, Try.ntmps77
        go_wp2_with (first
          | (go_at_call 51; refine (Cut_c id H.out.row).mono ?_; rintro e w1 ⟨he, h1, h2⟩; rw [← Hd.out] at he; subst he; have R1 := hide (H.out.fifo h1 h2); clear h1 h2)
          | go_in)
        go_ret
        have R := R1.out
        rw [List.erase_of_not_mem HL.out] at R
        exact ⟨rfl, R.1, R.2⟩
  | false =>
      clear hxy
      by_cases hL : id ∈ s.L
      · rw [if_pos hL]
        have HL := hide hL
        obtain ⟨d, hd⟩ : ∃ d, d = decide (id ∈ s.L) := ⟨_, rfl⟩
        have hd' : d = true := by rw [hd]; simp [hL]
        subst hd'
        rw [← hd]
        have Hd := hide hd
        clear hL hd
        go_enter Try.func77, Try.ntmps77
        go_wp2_with (first
          | (go_at_call 51; refine (Cut_c id H.out.row).mono ?_; rintro e w1 ⟨he, h1, h2⟩; rw [← Hd.out] at he; subst he; have R1 := hide (H.out.fifo h1 h2); obtain ⟨k0, k1, k2, k3, g2, g3⟩ := R1.out.1.cells; clear h1 h2)
          | (go_at_call 24; refine (Clear_c id R1.out.1.pur R1.out.1.ok).mono ?_; rintro e w2 ⟨rfl, h1, h2⟩)
          | go_in)
        go_ret
        have R := R1.out.1.purse h1 h2 (R1.out.1.ok.clear _) (PurseM.put_len _ _ _)
        exact ⟨rfl, R.1, R1.out.2.trans R.2⟩
      · rw [if_neg hL]
        have HL := hide hL
        obtain ⟨d, hd⟩ : ∃ d, d = decide (id ∈ s.L) := ⟨_, rfl⟩
        have hd' : d = false := by rw [hd]; simp [hL]
        subst hd'
        rw [← hd]
        have Hd := hide hd
        clear hL hd
        go_enter Try.func77, Try.ntmps77
        go_wp2_with (first
          | (go_at_call 51; refine (Cut_c id H.out.row).mono ?_; rintro e w1 ⟨he, h1, h2⟩; rw [← Hd.out] at he; subst he; have R1 := hide (H.out.fifo h1 h2); clear h1 h2)
          | go_in)
        go_ret
        have R := R1.out
        rw [List.erase_of_not_mem HL.out] at R
        exact ⟨rfl, R.1, R.2⟩
theorem Leave_c (id : Int) (h : TurnsAt w p N s) : Calls Try.prog 77 #[.pointer (some ⟨p.t, 0, none⟩), .int .i64 id] w fun e w' => e = .returned (.bool (s.leaves id)) ∧ TurnsAt w' p N (s.leave id) ∧ Only p.all w w' := by
  unfold TS.leaves TS.leave
  by_cases h1 : s.who = -1
  · rw [if_neg (fun e => e.1 h1), if_neg (fun e => e.1 h1)]
    exact Leave_out id h false _ (by simp [h1]) rfl rfl
  · by_cases h2 : s.who = id
    · rw [if_pos ⟨h1, h2⟩, if_pos ⟨h1, h2⟩]
      have hb1 : (s.who != -1) = true := by simp [h1]
      have hb2 : (s.who == id) = true := by simp [h2]
      obtain ⟨c0, c1, c2, c3, f2, f3⟩ := h.cells
      have H := hide h
      have e1 := hide (show s.ends N false = true by unfold TS.ends; rw [if_neg h1]; rfl)
      have e2 := hide (show s.end_ N false = { s with who := -1, m := s.m.clear s.who } by unfold TS.end_; rw [if_neg h1]; rfl)
      clear h h1 h2
      go_enter Try.func77, Try.ntmps77
      go_wp2_with (first
        | (go_at_call 70; refine (End_c false H.out).mono ?_; rintro e w1 ⟨he, h1, h2⟩; rw [e1.out] at he; subst he; rw [e2.out] at h1; have R1 := hide (And.intro h1 h2); clear h1 h2)
        | go_in)
      go_ret
      exact ⟨rfl, R1.out.1, R1.out.2⟩
    · rw [if_neg (fun e => h2 e.2), if_neg (fun e => h2 e.2)]
      exact Leave_out id h _ false rfl (by simp [h2]) (by simp)
def TS.wout (s : TS) : Ending := .returned (.tuple #[.int .i64 (if s.who = -1 then 0 else s.who), .bool (s.who != -1)])
theorem Whose_c (h : TurnsAt w p N s) : Calls Try.prog 79 #[.pointer (some ⟨p.t, 0, none⟩)] w fun e w' => e = s.wout ∧ w = w' := by
  have c2 := h.cells.2.2.1
  clear h
  unfold TS.wout
  by_cases h1 : s.who = -1
  · rw [if_pos h1]
    have hb : (s.who != -1) = false := by simp [h1]
    rw [hb]
    clear h1
    go_enter Try.func79, Try.ntmps79
    go_wp2
    go_ret2
    exact ⟨rfl, rfl⟩
  · rw [if_neg h1]
    have hb : (s.who != -1) = true := by simp [h1]
    rw [hb]
    clear h1
    go_enter Try.func79, Try.ntmps79
    go_wp2
    go_ret2
    exact ⟨rfl, rfl⟩
theorem THas_c (id : Int) (h : TurnsAt w p N s) : Calls Try.prog 80 #[.pointer (some ⟨p.t, 0, none⟩), .int .i64 id] w fun e w' => e = .returned (.int .i64 (s.m.has id)) ∧ w = w' := by
  have c1 := h.cells.2.1
  have H := hide h
  clear h
  go_enter Try.func80, Try.ntmps80
  go_wp2_with (first
    | (go_at_call 22; refine (Has_c id H.out.pur H.out.ok).mono ?_; rintro e w1 ⟨rfl, rfl⟩))
  go_ret
  exact ⟨rfl, rfl⟩
theorem Done_c (h : TurnsAt w p N s) : Calls Try.prog 83 #[.pointer (some ⟨p.t, 0, none⟩)] w fun e w' => e = .returned (.int .i64 s.done) ∧ w = w' := by
  have c3 := h.cells.2.2.2.1
  clear h
  go_enter Try.func83, Try.ntmps83
  go_wp2
  go_ret
  exact ⟨rfl, rfl⟩
end
theorem Leave_nil (id : Int) (w : World) : Calls Try.prog 77 #[.pointer none, .int .i64 id] w fun e w' => e = .returned (.bool false) ∧ w = w' := by
  go_enter Try.func77, Try.ntmps77
  go_wp2
  go_ret
  exact ⟨rfl, rfl⟩
theorem Whose_nil (w : World) : Calls Try.prog 79 #[.pointer none] w fun e w' => e = .returned (.tuple #[.int .i64 0, .bool false]) ∧ w = w' := by
  go_enter Try.func79, Try.ntmps79
  go_wp2
  go_ret2
  exact ⟨rfl, rfl⟩
theorem THas_nil (id : Int) (w : World) : Calls Try.prog 80 #[.pointer none, .int .i64 id] w fun e w' => e = .returned (.int .i64 0) ∧ w = w' := by
  go_enter Try.func80, Try.ntmps80
  go_wp2
  go_ret
  exact ⟨rfl, rfl⟩
theorem TList_nil (w : World) : Calls Try.prog 82 #[.pointer none] w fun e w' => e = .returned (.slice none 0 0) ∧ w = w' := by
  go_enter Try.func82, Try.ntmps82
  go_wp2
  go_ret
  exact ⟨rfl, rfl⟩
theorem Done_nil (w : World) : Calls Try.prog 83 #[.pointer none] w fun e w' => e = .returned (.int .i64 0) ∧ w = w' := by
  go_enter Try.func83, Try.ntmps83
  go_wp2
  go_ret
  exact ⟨rfl, rfl⟩
end Go.Proofs.Ytmkbhejbbhikcaa
