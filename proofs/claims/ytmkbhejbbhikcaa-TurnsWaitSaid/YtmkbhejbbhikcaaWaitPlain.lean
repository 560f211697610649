/- What waiting turns are. Conditions: those of each theorem. -/
import Derived.Test.YtmkbhejbbhikcaaTurnsPlain
namespace Go.Proofs.Ytmkbhejbbhikcaa
open Go.RowKit
set_option linter.unusedVariables false

/-- behind i turns, of which j were number 2's, which has what they gave: it stands in the row, and its next turn comes before the (j+1)-th five are over -/
structure WaitAt (L : List Int) (m : PurseM) (i j : Nat) (q p : Int) : Prop where
  nd : L.Nodup
  rng : ∀ x ∈ L, 0 ≤ x ∧ x < 5
  len : m.l.length = 5
  mq : m.q = q
  q0 : 1 ≤ q
  p0 : p ≤ 60
  has : m.has 2 = q * j
  low : j = 0 ∨ q * j < p
  cut : ∃ A B, L = A ++ 2 :: B ∧ i + A.length + 1 ≤ 5 * (j + 1)
section
variable {L : List Int} {m : PurseM} {i j : Nat} {q p : Int}
theorem WaitAt.push (h : WaitAt L m i j q p) (id : Int) : WaitAt (pushL 5 L id) m i j q p := by
  unfold pushL
  split
  · rename_i hc
    obtain ⟨A, B, e, hA⟩ := h.cut
    refine ⟨?_, ?_, h.len, h.mq, h.q0, h.p0, h.has, h.low, ⟨A, B ++ [id], by rw [e]; simp, hA⟩⟩
    · rw [List.nodup_append]
      refine ⟨h.nd, by simp, ?_⟩
      intro a ha b hb hab
      simp at hb
      subst hab; subst hb
      exact hc.2.2 ha
    · intro x hx
      rcases List.mem_append.1 hx with hx | hx
      · exact h.rng x hx
      · simp at hx; subst hx; exact ⟨hc.1, by have := hc.2.1; omega⟩
  · exact h
/-- another one's turn -/
theorem WaitAt.other {x : Int} {r : List Int} (h : WaitAt (x :: r) m i j q p) (hx : x ≠ 2) (m' : PurseM) (hl : m'.l.length = 5) (hq : m'.q = q) (hh : m'.has 2 = m.has 2) : WaitAt r m' (i + 1) j q p := by
  have hnd := List.nodup_cons.1 h.nd
  obtain ⟨A, B, e, hA⟩ := h.cut
  cases A with
  | nil => injection e with e1 e2; exact absurd e1 hx
  | cons y A' =>
    injection e with e1 e2
    refine ⟨hnd.2, fun y hy => h.rng y (by simp [hy]), hl, hq, h.q0, h.p0, by rw [hh]; exact h.has, h.low, ⟨A', B, e2, ?_⟩⟩
    simp only [List.length_cons] at hA
    omega
theorem five (L : List Int) (hn : L.Nodup) (hr : ∀ x ∈ L, 0 ≤ x ∧ x < 5) : L.length ≤ 5 := nodup_len L 5 hn hr
/-- its own turn, if it can't pay -/
theorem WaitAt.own {r : List Int} (h : WaitAt (2 :: r) m i j q p) (m' : PurseM) (hl : m'.l.length = 5) (hq : m'.q = q) (hh : m'.has 2 = q * ((j + 1 : Nat) : Int)) (hlow : q * ((j + 1 : Nat) : Int) < p) : WaitAt (pushL 5 r 2) m' (i + 1) (j + 1) q p := by
  have hnd := List.nodup_cons.1 h.nd
  have e : pushL 5 r 2 = r ++ [2] := by unfold pushL; rw [if_pos ⟨by omega, by omega, hnd.1⟩]
  have h5 := five _ h.nd h.rng
  simp only [List.length_cons] at h5
  obtain ⟨A, B, e1, hA⟩ := h.cut
  rw [e]
  refine ⟨?_, ?_, hl, hq, h.q0, h.p0, hh, Or.inr hlow, ⟨r, [], rfl, ?_⟩⟩
  · rw [List.nodup_append]
    refine ⟨hnd.2, by simp, ?_⟩
    intro a ha b hb hab
    simp at hb
    subst hab; subst hb
    exact hnd.1 ha
  · intro x hx
    rcases List.mem_append.1 hx with hx | hx
    · exact h.rng x (by simp [hx])
    · simp at hx; subst hx; omega
  · omega
/-- the turns do not end before it has paid -/
theorem WaitAt.over (h : WaitAt L m i j q p) (k : Nat) (hk : 1 ≤ k) (hp : p ≤ q * k) : i < 5 * k := by
  obtain ⟨A, B, e, hA⟩ := h.cut
  rcases h.low with h0 | h1
  · omega
  · have hjk : j < k := by
      rcases Nat.lt_or_ge j k with hl | hg
      · exact hl
      · exfalso
        have : q * (k : Int) ≤ q * (j : Int) := Int.mul_le_mul_of_nonneg_left (by omega) (by have := h.q0; omega)
        omega
    omega
end
end Go.Proofs.Ytmkbhejbbhikcaa
