/- The turns and the reference's turns come to the same: plain laws; told of both. Conditions: those of each theorem. -/
import Derived.Test.YtmkbhejbbhikcaaRefT3
import Derived.Test.YtmkbhejbbhikcaaPursePlain
namespace Go.Proofs.Ytmkbhejbbhikcaa
open Go.RowKit
set_option linter.unusedVariables false

/-- the reference's turns of the same row -/
def RT.of (s : TS) (l : List (Int × Int)) : RT := ⟨s.L, l, s.who, s.done⟩
/-- whose turn it may be -/
def WhoOk (N : Nat) (s : TS) : Prop := s.who = -1 ∨ (0 ≤ s.who ∧ s.who < N)
section
variable {N : Nat} {mo q : Int} {s : TS} {l : List (Int × Int)}
theorem wake_eq (hw : WhoOk N s) (hN : mo = N) (id : Int) : (RT.of s l).wake mo id = RT.of (s.wake N id) l ∧ (RT.of s l).wakes mo id = s.wakes N id := by
  obtain ⟨L, m, who, done⟩ := s
  subst hN
  unfold RT.wake RT.wakes RT.of TS.wake TS.wakes
  unfold WhoOk at hw
  simp only at hw ⊢
  by_cases h : who ≠ -1 ∧ who = id
  · have h' : 0 ≤ who ∧ id = who := by omega
    rw [if_pos h, if_pos h', if_pos h, if_pos h']
    exact ⟨rfl, rfl⟩
  · have h' : ¬ (0 ≤ who ∧ id = who) := by omega
    rw [if_neg h, if_neg h', if_neg h, if_neg h']
    exact ⟨rfl, rfl⟩
theorem begin_eq (hw : WhoOk N s) (hp : PRel s.m mo q l) : ∃ l', (RT.of s l).begin_ mo q = RT.of s.begin_ l' ∧ PRel s.begin_.m mo q l' := by
  obtain ⟨L, m, who, done⟩ := s
  unfold RT.begin_ RT.of TS.begin_
  unfold WhoOk at hw
  simp only at hw hp ⊢
  by_cases h : who = -1
  · rw [if_neg (by omega), if_pos h]
    cases L with
    | nil => exact ⟨l, rfl, hp⟩
    | cons x r => exact ⟨_, rfl, hp.give x⟩
  · rw [if_pos (by omega), if_neg h]
    exact ⟨l, rfl, hp⟩
/-- the number that Begin tells here and there -/
theorem begins_eq (hw : WhoOk N s) (hr : ∀ x ∈ s.L, 0 ≤ x) : (s.begins = true ∧ 0 ≤ (RT.of s l).begins ∧ s.bout = .returned (.tuple #[.int .i64 (RT.of s l).begins, .bool true])) ∨ ((RT.of s l).begins = -1 ∧ s.bout = .returned (.tuple #[.int .i64 0, .bool false])) := by
  obtain ⟨L, m, who, done⟩ := s
  unfold RT.begins RT.of TS.bout TS.begins
  unfold WhoOk at hw
  simp only at hw hr ⊢
  by_cases h : who = -1
  · rw [if_neg (by omega), if_pos h]
    cases L with
    | nil => exact Or.inr ⟨rfl, by simp [hd, h]⟩
    | cons x r => exact Or.inl ⟨by simp [h], hr x (by simp), by simp [hd, h]⟩
  · rw [if_pos (by omega), if_neg h]
    exact Or.inr ⟨rfl, by simp [h]⟩
theorem pay_eq (hw : WhoOk N s) (hp : PRel s.m mo q l) (price : Int) : (∃ l', (RT.of s l).pay mo price = RT.of (s.pay price) l' ∧ PRel (s.pay price).m mo q l') ∧ (RT.of s l).pays mo price = s.can price := by
  obtain ⟨L, m, who, done⟩ := s
  unfold RT.pay RT.pays RT.of TS.pay TS.can
  unfold WhoOk at hw
  simp only at hw hp ⊢
  by_cases h : who = -1
  · rw [if_pos (by omega), if_pos h, if_pos (by omega), if_pos h]
    exact ⟨⟨l, rfl, hp⟩, rfl⟩
  · rw [if_neg (by omega), if_neg h, if_neg (by omega), if_neg h]
    exact ⟨⟨_, rfl, hp.pay who price⟩, (hp.can who price).symm⟩
theorem end_eq (hw : WhoOk N s) (hN : mo = N) (hn : s.who ∉ s.L ∨ s.who = -1) (hp : PRel s.m mo q l) (again : Bool) : ∃ l', (RT.of s l).end_ mo again = RT.of (s.end_ N again) l' ∧ PRel (s.end_ N again).m mo q l' := by
  obtain ⟨L, m, who, done⟩ := s
  subst hN
  unfold RT.end_ RT.of TS.end_
  unfold WhoOk at hw
  simp only at hw hp hn ⊢
  by_cases h : who = -1
  · rw [if_pos (by omega), if_pos h]
    exact ⟨l, rfl, hp⟩
  · rw [if_neg (by omega), if_neg h]
    cases again with
    | true => exact ⟨l, rfl, hp⟩
    | false => exact ⟨_, rfl, hp.clear who⟩
theorem ends_eq (hw : WhoOk N s) (hn : s.who ∉ s.L ∨ s.who = -1) (again : Bool) : (RT.of s l).ends = s.ends N again := by
  obtain ⟨L, m, who, done⟩ := s
  unfold RT.ends RT.of TS.ends
  unfold WhoOk at hw
  simp only at hw hn ⊢
  by_cases h : who = -1
  · rw [if_pos (by omega), if_pos h]
  · rw [if_neg (by omega), if_neg h]
    cases again with
    | true =>
      rw [if_pos rfl]
      unfold comes
      symm
      rw [decide_eq_true_iff]
      rcases hn with hn | hn
      · exact ⟨by omega, by omega, hn⟩
      · exact absurd hn h
    | false => rfl
theorem cut_erase {L : List Int} (hn : L.Nodup) (id : Int) : cutI L id = L.erase id := by
  unfold cutI
  rw [List.Nodup.erase_eq_filter hn]
  apply List.filter_congr
  intro x _
  by_cases h : x = id
  · subst h; simp
  · simp [h]
theorem waits_eq (hw : WhoOk N s) (id : Int) : (RT.of s l).waits id = s.waits id := by
  obtain ⟨L, m, who, done⟩ := s
  unfold RT.waits RT.of TS.waits
  unfold WhoOk at hw
  simp only at hw ⊢
  congr 2
  rw [Bool.eq_iff_iff]
  simp
  omega
theorem leave_eq (hw : WhoOk N s) (hN : mo = N) (hnd : s.L.Nodup) (hr : ∀ x ∈ s.L, 0 ≤ x) (hn : s.who ∉ s.L ∨ s.who = -1) (hp : PRel s.m mo q l) (id : Int) :
    (∃ l', (RT.of s l).leave mo id = RT.of (s.leave id) l' ∧ PRel (s.leave id).m mo q l') ∧ (RT.of s l).leaves id = s.leaves id := by
  unfold RT.leave RT.leaves
  rw [waits_eq hw id]
  obtain ⟨L, m, who, done⟩ := s
  subst hN
  unfold TS.leave TS.leaves TS.waits RT.of
  unfold WhoOk at hw
  simp only at hw hp hn hnd hr ⊢
  by_cases h : who ≠ -1 ∧ who = id
  · have h1 : (decide (id ∈ L) || ((who != -1) && (who == id))) = true := by
      rw [Bool.or_eq_true, Bool.and_eq_true]
      exact Or.inr ⟨by simpa using h.1, by simpa using h.2⟩
    have h0 : ¬ who < 0 := by omega
    rw [if_pos h1, if_pos h1, if_pos h, if_pos h, if_pos h.2, if_pos h.2]
    unfold RT.end_ RT.ends
    simp only
    rw [if_neg h0, if_neg h0]
    exact ⟨⟨_, rfl, hp.clear who⟩, rfl⟩
  · rw [if_neg h, if_neg h]
    by_cases hin : id ∈ L
    · have h0 := hr id hin
      have h1 : (decide (id ∈ L) || ((who != -1) && (who == id))) = true := by simp [hin]
      rw [if_pos h1, if_pos h1, if_pos hin, if_neg (by omega), if_neg (by omega), cut_erase hnd, decide_eq_true hin]
      exact ⟨⟨_, rfl, hp.clear id⟩, rfl⟩
    · have h1 : ¬ (decide (id ∈ L) || ((who != -1) && (who == id))) = true := by
        simp [hin]; omega
      rw [if_neg h1, if_neg h1, if_neg hin, decide_eq_false hin]
      exact ⟨⟨l, rfl, hp⟩, rfl⟩
/-- who is on does not wait -/
def OffRow (s : TS) : Prop := s.who ∉ s.L ∨ s.who = -1
theorem OffRow.wake (h : OffRow s) (id : Int) : OffRow (s.wake N id) := by
  obtain ⟨L, m, who, done⟩ := s
  unfold OffRow TS.wake at *
  simp only at h ⊢
  by_cases hc : who ≠ -1 ∧ who = id
  · rw [if_pos hc]; exact h
  · rw [if_neg hc]
    rcases h with h | h
    · by_cases hw : who = -1
      · exact Or.inr hw
      · left
        show who ∉ pushL N L id
        unfold pushL
        split
        · intro hx
          rcases List.mem_append.1 hx with hx | hx
          · exact h hx
          · simp at hx; exact hc ⟨hw, hx⟩
        · exact h
    · exact Or.inr h
theorem OffRow.begin_ (h : OffRow s) (hnd : s.L.Nodup) : OffRow s.begin_ := by
  obtain ⟨L, m, who, done⟩ := s
  unfold OffRow TS.begin_ at *
  simp only at h hnd ⊢
  by_cases hc : who = -1
  · rw [if_pos hc]
    cases L with
    | nil => exact Or.inr hc
    | cons x r => exact Or.inl (List.nodup_cons.1 hnd).1
  · rw [if_neg hc]; exact h
theorem OffRow.pay (h : OffRow s) (price : Int) : OffRow (s.pay price) := by
  obtain ⟨L, m, who, done⟩ := s
  unfold OffRow TS.pay at *
  simp only at h ⊢
  split
  · exact h
  · exact h
theorem OffRow.end_ (h : OffRow s) (again : Bool) : OffRow (s.end_ N again) := by
  obtain ⟨L, m, who, done⟩ := s
  unfold OffRow TS.end_ at *
  simp only at h ⊢
  split
  · exact h
  · split
    · exact Or.inr rfl
    · exact Or.inr rfl
theorem OffRow.leave (h : OffRow s) (id : Int) : OffRow (s.leave id) := by
  obtain ⟨L, m, who, done⟩ := s
  unfold OffRow TS.leave at *
  simp only at h ⊢
  split
  · exact Or.inr rfl
  · split
    · rcases h with h | h
      · exact Or.inl (fun hx => h (List.mem_of_mem_erase hx))
      · exact Or.inr h
    · exact h
end
end Go.Proofs.Ytmkbhejbbhikcaa
