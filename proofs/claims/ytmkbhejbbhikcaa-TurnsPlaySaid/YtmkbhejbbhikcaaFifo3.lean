/- A row in memory, as a list: the other methods. Conditions: those of each theorem. -/
import Derived.Test.YtmkbhejbbhikcaaFifo2
namespace Go.Proofs.Ytmkbhejbbhikcaa
open Go.RowKit
set_option linter.unusedVariables false

def fout (L : List Int) : Ending := .returned (.tuple #[.int .i64 (hd L 0), .bool (!L.isEmpty)])
section
variable {w : World} {b nb pb ib N : Nat} {L : List Int}
/-- the cells, as the list says -/
theorem FifoAt.see (h : FifoAt w b nb pb ib N L) : w.cell? ⟨b, 2, none⟩ = some (.slice (some ⟨ib, 0, none⟩) N N) ∧ w.cell? ⟨b, 3, none⟩ = some (.int .i64 (hd L (-1))) ∧ w.cell? ⟨b, 5, none⟩ = some (.int .i64 L.length) ∧
    ∀ id : Int, 0 ≤ id → id < N → w.cell? ⟨ib, id.toNat, none⟩ = some (.bool (decide (id ∈ L))) := by
  obtain ⟨q, hm, hr⟩ := h.ex
  obtain ⟨⟨c0, c1, c2⟩, c3, c4, c5⟩ := hm.cells
  refine ⟨c2, by rw [c3, hr.first], by rw [c5, hr.cnt], fun id h0 h1 => ?_⟩
  rw [hm.in_at hr.li h0 h1, hr.isin id h0 h1]
theorem Pop_none (h : FifoAt w b nb pb ib N []) : Calls Try.prog 49 #[.pointer (some ⟨b, 0, none⟩)] w fun e w' => e = .returned (.tuple #[.int .i64 0, .bool false]) ∧ w = w' := by
  have c5 := h.see.2.2.1
  simp only [List.length_nil] at c5
  clear h
  go_enter Try.func49, Try.ntmps49
  go_wp2_with fail
  go_ret2
  exact ⟨rfl, rfl⟩
theorem Pop_some {x : Int} {r : List Int} (h : FifoAt w b nb pb ib N (x :: r)) : Calls Try.prog 49 #[.pointer (some ⟨b, 0, none⟩)] w fun e w' => e = .returned (.tuple #[.int .i64 x, .bool true]) ∧ FifoAt w' b nb pb ib N r ∧ Only (FS b nb pb ib) w w' := by
  have c3 := h.see.2.1
  have c5 := h.see.2.2.1
  have c3' : w.cell? ⟨b, 3, none⟩ = some (.int .i64 x) := c3
  obtain ⟨n, hn⟩ : ∃ n : Int, n = ((x :: r).length : Nat) := ⟨_, rfl⟩
  rw [← hn] at c5
  have hn0 : (n == 0) = false := by rw [hn]; simp; omega
  have her : (x :: r).erase x = r := by simp
  have H := hide h
  have Her := hide her
  clear h c3 hn her
  go_enter Try.func49, Try.ntmps49
  go_wp2_with fail
  refine (cut_c x H.out (by simp)).mono ?_
  rintro e w1 ⟨rfl, h1, h2⟩
  rw [Her.out] at h1
  go_wp2_with fail
  go_ret2
  exact ⟨rfl, h1, h2⟩
theorem fPop_nil (w : World) : Calls Try.prog 49 #[.pointer none] w fun e w' => e = .returned (.tuple #[.int .i64 0, .bool false]) ∧ w = w' := by
  go_enter Try.func49, Try.ntmps49
  go_wp2_with fail
  go_ret2
  exact ⟨rfl, rfl⟩
theorem Pop_c (h : FifoAt w b nb pb ib N L) : Calls Try.prog 49 #[.pointer (some ⟨b, 0, none⟩)] w fun e w' => e = fout L ∧ FifoAt w' b nb pb ib N L.tail ∧ Only (FS b nb pb ib) w w' := by
  cases L with
  | nil => exact (Pop_none h).mono fun e w' ⟨he, hw⟩ => by subst hw; exact ⟨he, h, Only.refl _ _⟩
  | cons x r => exact Pop_some h

theorem Front_c (h : FifoAt w b nb pb ib N L) : Calls Try.prog 62 #[.pointer (some ⟨b, 0, none⟩)] w fun e w' => e = fout L ∧ w = w' := by
  have c3 := h.see.2.1
  have c5 := h.see.2.2.1
  clear h
  unfold fout
  cases L with
  | nil =>
    simp only [List.length_nil] at c5
    go_enter Try.func62, Try.ntmps62
    go_wp2_with fail
    go_ret2
    exact ⟨rfl, rfl⟩
  | cons x r =>
    have c3' : w.cell? ⟨b, 3, none⟩ = some (.int .i64 x) := c3
    obtain ⟨n, hn⟩ : ∃ n : Int, n = ((x :: r).length : Nat) := ⟨_, rfl⟩
    rw [← hn] at c5
    have hn0 : (n == 0) = false := by rw [hn]; simp; omega
    clear c3 hn
    go_enter Try.func62, Try.ntmps62
    go_wp2_with fail
    go_ret2
    exact ⟨rfl, rfl⟩
theorem fFront_nil (w : World) : Calls Try.prog 62 #[.pointer none] w fun e w' => e = .returned (.tuple #[.int .i64 0, .bool false]) ∧ w = w' := by
  go_enter Try.func62, Try.ntmps62
  go_wp2_with fail
  go_ret2
  exact ⟨rfl, rfl⟩

def turnL : List Int → List Int
  | [] => []
  | x :: r => r ++ [x]
theorem Turn_c (h : FifoAt w b nb pb ib N L) : Calls Try.prog 59 #[.pointer (some ⟨b, 0, none⟩)] w fun e w' => e = .returned (.bool (!L.isEmpty)) ∧ FifoAt w' b nb pb ib N (turnL L) ∧ Only (FS b nb pb ib) w w' := by
  have hnd := h.nodup
  have H := hide h
  clear h
  cases L with
  | nil =>
    clear hnd
    go_enter Try.func59, Try.ntmps59
    go_wp2_with fail
    refine (Pop_none H.out).mono ?_
    rintro e w' ⟨rfl, rfl⟩
    go_wp2_with fail
    go_ret
    exact ⟨rfl, H.out, Only.refl _ _⟩
  | cons x r =>
    have hx := hnd.2 x (by simp)
    have hxr := (List.nodup_cons.1 hnd.1).1
    have e1 : comes N r x = true := by unfold comes; simp [hx.1, hx.2, hxr]
    have e2 : pushL N r x = r ++ [x] := by unfold pushL; rw [if_pos ⟨hx.1, hx.2, hxr⟩]
    have E1 := hide e1
    have E2 := hide e2
    clear hnd hx hxr e1 e2
    go_enter Try.func59, Try.ntmps59
    go_wp2_with fail
    refine (Pop_some H.out).mono ?_
    rintro e w1 ⟨rfl, h1, ho1⟩
    go_wp2_with fail
    refine (Push_c x h1).mono ?_
    rintro e w2 ⟨he, h2, ho2⟩
    rw [E1.out] at he
    rw [E2.out] at h2
    subst he
    go_wp2_with fail
    go_ret
    exact ⟨rfl, h2, ho1.trans ho2⟩
theorem fTurn_nil (w : World) : Calls Try.prog 59 #[.pointer none] w fun e w' => e = .returned (.bool false) ∧ w = w' := by
  go_enter Try.func59, Try.ntmps59
  go_wp2_with fail
  refine (fPop_nil _).mono ?_
  rintro e w' ⟨rfl, rfl⟩
  go_wp2_with fail
  go_ret
  exact ⟨rfl, rfl⟩

/-- what 'may' and 'in' tell -/
theorem inside (h : FifoAt w b nb pb ib N L) (id : Int) : (id < 0 ∧ id ∉ L) ∨ (0 ≤ id ∧ (N : Int) ≤ id ∧ id ∉ L) ∨ (0 ≤ id ∧ id < (N : Int) ∧ w.cell? ⟨ib, id.toNat, none⟩ = some (.bool false) ∧ id ∉ L) ∨
    (0 ≤ id ∧ id < (N : Int) ∧ w.cell? ⟨ib, id.toNat, none⟩ = some (.bool true) ∧ id ∈ L) := by
  have hi := h.see.2.2.2
  have hr := h.nodup.2
  by_cases h0 : id < 0
  · exact Or.inl ⟨h0, fun hx => by have := hr id hx; omega⟩
  · by_cases h1 : (N : Int) ≤ id
    · exact Or.inr (Or.inl ⟨by omega, h1, fun hx => by have := hr id hx; omega⟩)
    · have := hi id (by omega) (by omega)
      by_cases hin : id ∈ L
      · rw [decide_eq_true hin] at this
        exact Or.inr (Or.inr (Or.inr ⟨by omega, by omega, this, hin⟩))
      · rw [decide_eq_false hin] at this
        exact Or.inr (Or.inr (Or.inl ⟨by omega, by omega, this, hin⟩))
theorem Has_f (id : Int) (h : FifoAt w b nb pb ib N L) : Calls Try.prog 63 #[.pointer (some ⟨b, 0, none⟩), .int .i64 id] w fun e w' => e = .returned (.bool (decide (id ∈ L))) ∧ w = w' := by
  have c2 := h.see.1
  rcases inside h id with ⟨h0, hn⟩ | ⟨h0, h1, hn⟩ | ⟨h0, h1, hc, hn⟩ | ⟨h0, h1, hc, hn⟩
  · rw [decide_eq_false hn]
    clear h hn
    go_enter Try.func63, Try.ntmps63
    go_wp2
    go_ret
    exact ⟨rfl, rfl⟩
  · rw [decide_eq_false hn]
    have hd : decide (id < (N : Int)) = false := by simp; omega
    clear h hn h1
    go_enter Try.func63, Try.ntmps63
    go_wp2
    go_ret
    exact ⟨rfl, rfl⟩
  · rw [decide_eq_false hn]
    clear h hn
    go_enter Try.func63, Try.ntmps63
    go_wp2
    go_ret
    exact ⟨rfl, rfl⟩
  · rw [decide_eq_true hn]
    clear h hn
    go_enter Try.func63, Try.ntmps63
    go_wp2
    go_ret
    exact ⟨rfl, rfl⟩
theorem fHas_nil (id : Int) (w : World) : Calls Try.prog 63 #[.pointer none, .int .i64 id] w fun e w' => e = .returned (.bool false) ∧ w = w' := by
  go_enter Try.func63, Try.ntmps63
  go_wp2
  go_ret
  exact ⟨rfl, rfl⟩
theorem Cut_c (id : Int) (h : FifoAt w b nb pb ib N L) : Calls Try.prog 51 #[.pointer (some ⟨b, 0, none⟩), .int .i64 id] w fun e w' => e = .returned (.bool (decide (id ∈ L))) ∧ FifoAt w' b nb pb ib N (L.erase id) ∧ Only (FS b nb pb ib) w w' := by
  have c2 := h.see.1
  have H := hide h
  rcases inside h id with ⟨h0, hn⟩ | ⟨h0, h1, hn⟩ | ⟨h0, h1, hc, hn⟩ | ⟨h0, h1, hc, hn⟩
  · rw [decide_eq_false hn, List.erase_of_not_mem hn]
    clear h hn
    go_enter Try.func51, Try.ntmps51
    go_wp2
    go_ret
    exact ⟨rfl, H.out, Only.refl _ _⟩
  · rw [decide_eq_false hn, List.erase_of_not_mem hn]
    have hd : decide (id < (N : Int)) = false := by simp; omega
    clear h hn h1
    go_enter Try.func51, Try.ntmps51
    go_wp2
    go_ret
    exact ⟨rfl, H.out, Only.refl _ _⟩
  · rw [decide_eq_false hn, List.erase_of_not_mem hn]
    clear h hn
    go_enter Try.func51, Try.ntmps51
    go_wp2
    go_ret
    exact ⟨rfl, H.out, Only.refl _ _⟩
  · rw [decide_eq_true hn]
    have Hn := hide hn
    clear h hn
    go_enter Try.func51, Try.ntmps51
    go_wp2_with (first
      | (go_at_call 91; refine (cut_c id H.out Hn.out).mono ?_; rintro e w1 ⟨rfl, h1, h2⟩)
      | go_in)
    go_ret
    exact ⟨rfl, h1, h2⟩
theorem fCut_nil (id : Int) (w : World) : Calls Try.prog 51 #[.pointer none, .int .i64 id] w fun e w' => e = .returned (.bool false) ∧ w = w' := by
  go_enter Try.func51, Try.ntmps51
  go_wp2
  go_ret
  exact ⟨rfl, rfl⟩
theorem Len_f (h : FifoAt w b nb pb ib N L) : Calls Try.prog 64 #[.pointer (some ⟨b, 0, none⟩)] w fun e w' => e = .returned (.int .i64 L.length) ∧ w = w' := by
  have c5 := h.see.2.2.1
  clear h
  go_enter Try.func64, Try.ntmps64
  go_wp2
  go_ret
  exact ⟨rfl, rfl⟩
theorem fLen_nil (w : World) : Calls Try.prog 64 #[.pointer none] w fun e w' => e = .returned (.int .i64 0) ∧ w = w' := by
  go_enter Try.func64, Try.ntmps64
  go_wp2
  go_ret
  exact ⟨rfl, rfl⟩
theorem Most_f (h : FifoAt w b nb pb ib N L) : Calls Try.prog 56 #[.pointer (some ⟨b, 0, none⟩)] w fun e w' => e = .returned (.int .i64 N) ∧ w = w' := by
  have c2 := h.see.1
  clear h
  go_enter Try.func56, Try.ntmps56
  go_wp2
  go_ret
  exact ⟨rfl, rfl⟩
theorem fMost_nil (w : World) : Calls Try.prog 56 #[.pointer none] w fun e w' => e = .returned (.int .i64 0) ∧ w = w' := by
  go_enter Try.func56, Try.ntmps56
  go_wp2
  go_ret
  exact ⟨rfl, rfl⟩
end
end Go.Proofs.Ytmkbhejbbhikcaa
