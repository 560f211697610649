/- What fair turns are. Conditions: those of each theorem. -/
import Derived.Test.YtmkbhejbbhikcaaTurns5
namespace Go.Proofs.Ytmkbhejbbhikcaa
open Go.RowKit
set_option linter.unusedVariables false

structure FairAt (L had : List Int) (n : Nat) : Prop where
  nd : L.Nodup
  rng : ∀ x ∈ L, 0 ≤ x ∧ x < (n : Int)
  hl : had.length = 6
  n6 : n ≤ 6
  cut : ∃ A B, L = A ++ 0 :: B ∧ ∀ x ∈ A, nth had x.toNat = 0
  one : ∀ k, k < 6 → 0 ≤ nth had k ∧ nth had k ≤ 1
theorem FairAt.push {L had : List Int} {n : Nat} (h : FairAt L had n) (id : Int) : FairAt (pushL n L id) had n := by
  unfold pushL
  split
  · rename_i hc
    obtain ⟨A, B, e, hA⟩ := h.cut
    refine ⟨?_, ?_, h.hl, h.n6, ⟨A, B ++ [id], by rw [e]; simp, hA⟩, h.one⟩
    · rw [List.nodup_append]
      refine ⟨h.nd, by simp, ?_⟩
      intro a ha b hb hab
      simp at hb
      subst hab; subst hb
      exact hc.2.2 ha
    · intro x hx
      rcases List.mem_append.1 hx with hx | hx
      · exact h.rng x hx
      · simp at hx; subst hx; exact ⟨hc.1, hc.2.1⟩
  · exact h
theorem FairAt.zero {B had : List Int} {n : Nat} (h : FairAt (0 :: B) had n) : FairAt (pushL n B 0) [1, 0, 0, 0, 0, 0] n := by
  have hnd := List.nodup_cons.1 h.nd
  have h0 := h.rng 0 (by simp)
  have e : pushL n B 0 = B ++ [0] := by unfold pushL; rw [if_pos ⟨h0.1, h0.2, hnd.1⟩]
  rw [e]
  refine ⟨?_, ?_, rfl, h.n6, ⟨B, [], rfl, ?_⟩, ?_⟩
  · rw [List.nodup_append]
    refine ⟨hnd.2, by simp, ?_⟩
    intro a ha b hb hab
    simp at hb
    subst hab; subst hb
    exact hnd.1 ha
  · intro x hx
    rcases List.mem_append.1 hx with hx | hx
    · exact h.rng x (by simp [hx])
    · simp at hx; subst hx; exact h0
  · intro x hx
    have hr := h.rng x (by simp [hx])
    have hn6 := h.n6
    have hne : x ≠ 0 := fun e => hnd.1 (e ▸ hx)
    obtain ⟨k, hk⟩ : ∃ k : Nat, x = k := ⟨x.toNat, by omega⟩
    subst hk
    have hk6 : k < 6 := by omega
    have hk0 : k ≠ 0 := by omega
    simp only [Int.toNat_natCast]
    match k, hk6, hk0 with
    | 1, _, _ => rfl
    | 2, _, _ => rfl
    | 3, _, _ => rfl
    | 4, _, _ => rfl
    | 5, _, _ => rfl
  · intro k hk
    match k, hk with
    | 0, _ => decide
    | 1, _ => decide
    | 2, _ => decide
    | 3, _ => decide
    | 4, _ => decide
    | 5, _ => decide
theorem FairAt.turn {x : Int} {r had : List Int} {n : Nat} (h : FairAt (x :: r) had n) (hx : x ≠ 0) : nth had x.toNat = 0 ∧ FairAt r (had.set x.toNat 1) n := by
  have hnd := List.nodup_cons.1 h.nd
  have hxr := h.rng x (by simp)
  have hn6 := h.n6
  obtain ⟨A, B, e, hA⟩ := h.cut
  cases A with
  | nil => injection e with e1 e2; exact absurd e1 hx
  | cons y A' =>
    injection e with e1 e2
    subst e1
    refine ⟨hA x (by simp), hnd.2, fun y hy => h.rng y (by simp [hy]), by simp [h.hl], hn6, ⟨A', B, e2, ?_⟩, ?_⟩
    · intro y hy
      have hyr : y ∈ r := by rw [e2]; simp [hy]
      have hyb := h.rng y (by simp [hyr])
      have hne : x ≠ y := fun e => hnd.1 (e ▸ hyr)
      have := hA y (by simp [hy])
      unfold nth at *
      simp only [List.getD_eq_getElem?_getD] at *
      rw [List.getElem?_set_ne (by omega)]
      exact this
    · intro k hk
      have := h.one k hk
      unfold nth at *
      simp only [List.getD_eq_getElem?_getD] at *
      by_cases hkx : x.toNat = k
      · subst hkx
        rw [List.getElem?_set_self (by rw [h.hl]; exact hk)]
        simp
      · rw [List.getElem?_set_ne hkx]
        exact this
def firsts (k : Nat) : List Int := (List.range k).map Int.ofNat
theorem firsts_push (n k : Nat) (h : k < n) : pushL n (firsts k) k = firsts (k + 1) := by
  unfold pushL firsts
  rw [if_pos ⟨by omega, by omega, by simp; omega⟩, List.range_succ, List.map_append]
  rfl
theorem firsts_fair (n : Nat) (h1 : 1 ≤ n) (h6 : n ≤ 6) : FairAt (firsts n) (zeros 6) n := by
  refine ⟨?_, ?_, by simp [zeros_len], h6, ⟨[], (List.range' 1 (n - 1)).map Int.ofNat, ?_, by simp⟩, ?_⟩
  · match n, h1, h6 with
    | 1, _, _ => decide
    | 2, _, _ => decide
    | 3, _, _ => decide
    | 4, _, _ => decide
    | 5, _, _ => decide
    | 6, _, _ => decide
  · intro x hx
    simp [firsts] at hx
    obtain ⟨a, ha, rfl⟩ := hx
    omega
  · match n, h1, h6 with
    | 1, _, _ => rfl
    | 2, _, _ => rfl
    | 3, _, _ => rfl
    | 4, _, _ => rfl
    | 5, _, _ => rfl
    | 6, _, _ => rfl
  · intro k hk
    unfold zeros
    rw [nth_rep]
    decide
theorem TS.begin_cons {s : TS} {x : Int} {r : List Int} (h : s.who = -1) (hL : s.L = x :: r) : s.begin_ = ⟨r, s.m.give x, x, s.done + 1⟩ ∧ s.bout = .returned (.tuple #[.int .i64 x, .bool true]) := by
  unfold TS.begin_ TS.bout TS.begins
  rw [if_pos h, if_pos h, hL]
  simp [h, hd]
theorem TS.wake_free {s : TS} (h : s.who = -1) (n : Nat) (id : Int) : s.wake n id = { s with L := pushL n s.L id } := by
  unfold TS.wake
  rw [if_neg (fun e => e.1 h)]
end Go.Proofs.Ytmkbhejbbhikcaa
