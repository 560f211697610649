/- Parts of a chain of lemmas: Ids31b, Uniq. Conditions: those of each theorem. -/
import Derived.Test.YtgfogoplmokilaaIds31
namespace Go.Proofs.Ytgfogoplmokilaa
open Go.RowKit Go.Sort
set_option linter.unusedVariables false
theorem Ids_c (M : Nat → Prop) (A : Option Addr) (c : Nat) (l : List Ev) (w : World) (hr : Rd w M A (flat encEv l)) (hn : l.length ≤ 100000) (hM : ∀ k, M k → k < w.heap.size) :
    Calls Try.prog 12 #[.slice A l.length c] w fun e w' => Below w.heap.size w w' ∧ ∃ A1 c1, e = .returned (.slice A1 (Lib.compact ((openedL l).mergeSort fun x y => decide (x ≤ y))).length c1) ∧ Rd w' M A1 (flat encI (Lib.compact ((openedL l).mergeSort fun x y => decide (x ≤ y)))) := by
  have HI := hide (ids_c M A c l w hr hn hM)
  clear hr hM
  go_enter Try.func12, Try.ntmps12
  go_wp2_with fail
  refine HI.out.mono ?_
  rintro e w2 ⟨hb, A1, c1, rfl, hr2⟩
  go_wp2_with fail
  go_ret
  exact ⟨hb, A1, c1, rfl, hr2⟩
end Go.Proofs.Ytgfogoplmokilaa
namespace Go.Proofs.Ytgfogoplmokilaa
open Go.RowKit
set_option linter.unusedVariables false

theorem strict_eq : ∀ (a b : List Int), a.Pairwise (· < ·) → b.Pairwise (· < ·) → (∀ y, y ∈ a ↔ y ∈ b) → a = b := by
  intro a
  induction a with
  | nil =>
    intro b _ _ h
    cases b with
    | nil => rfl
    | cons x r => exact absurd ((h x).2 (by simp)) (by simp)
  | cons x r ih =>
    intro b ha hb h
    cases b with
    | nil => exact absurd ((h x).1 (by simp)) (by simp)
    | cons y s =>
      rw [List.pairwise_cons] at ha hb
      have hxy : x = y := by
        have h1 : x ∈ y :: s := (h x).1 (by simp)
        have h2 : y ∈ x :: r := (h y).2 (by simp)
        rcases List.mem_cons.1 h1 with h1 | h1
        · exact h1
        · rcases List.mem_cons.1 h2 with h2 | h2
          · exact h2.symm
          · have := hb.1 x h1; have := ha.1 y h2; omega
      subst hxy
      congr 1
      refine ih s ha.2 hb.2 (fun z => ⟨fun hz => ?_, fun hz => ?_⟩)
      · rcases List.mem_cons.1 ((h z).1 (List.mem_cons_of_mem _ hz)) with e | e
        · have := ha.1 z hz; omega
        · exact e
      · rcases List.mem_cons.1 ((h z).2 (List.mem_cons_of_mem _ hz)) with e | e
        · have := hb.1 z hz; omega
        · exact e
theorem compUp (d : Array Int) (hs : ∀ i j, i ≤ j → j < d.size → d[i]! ≤ d[j]!) : ∀ m, m ≤ d.size → (Lib.compactUpTo d m).Pairwise (· < ·) ∧ (∀ y, y ∈ Lib.compactUpTo d m ↔ ∃ j, j < m ∧ d[j]! = y) := by
  intro m
  induction m with
  | zero => intro _; simp [Lib.compactUpTo]
  | succ m ih =>
    intro hm
    obtain ⟨h1, h2⟩ := ih (by omega)
    rw [Lib.compactUpTo_succ]
    by_cases hk : Lib.keeps d m = true
    · rw [if_pos hk]
      constructor
      · rw [List.pairwise_append]
        refine ⟨h1, List.pairwise_singleton _ _, fun a ha b hb => ?_⟩
        simp at hb; subst hb
        obtain ⟨j, hj, rfl⟩ := (h2 a).1 ha
        have hle := hs j (m - 1) (by omega) (by omega)
        have hle2 := hs (m - 1) m (by omega) (by omega)
        have hne : d[m]! ≠ d[m - 1]! := by
          unfold Lib.keeps at hk
          rcases of_decide_eq_true hk with h | h
          · omega
          · exact h
        omega
      · intro y
        rw [List.mem_append, h2 y]
        constructor
        · rintro (⟨j, hj, e⟩ | h)
          · exact ⟨j, by omega, e⟩
          · simp at h; exact ⟨m, by omega, h.symm⟩
        · rintro ⟨j, hj, e⟩
          by_cases hjm : j = m
          · subst hjm; exact Or.inr (by simp [e])
          · exact Or.inl ⟨j, by omega, e⟩
    · rw [if_neg hk, List.append_nil]
      refine ⟨h1, fun y => ?_⟩
      rw [h2 y]
      constructor
      · rintro ⟨j, hj, e⟩; exact ⟨j, by omega, e⟩
      · rintro ⟨j, hj, e⟩
        by_cases hjm : j = m
        · subst hjm
          have hk' : ¬ (j = 0 ∨ d[j]! ≠ d[j - 1]!) := fun h => hk (decide_eq_true h)
          refine ⟨j - 1, by omega, ?_⟩
          rw [← e]
          by_cases h0 : d[j]! = d[j - 1]!
          · exact h0.symm
          · exact absurd (Or.inr h0) hk'
        · exact ⟨j, by omega, e⟩
/-- sorted, each once: what Sort and Compact leave -/
def uniq (l : List Int) : List Int := Lib.compact (l.mergeSort fun x y => decide (x ≤ y))
theorem uniq_spec (l : List Int) : (uniq l).Pairwise (· < ·) ∧ ∀ y, y ∈ uniq l ↔ y ∈ l := by
  have hp : (l.mergeSort fun x y => decide (x ≤ y)).Pairwise (fun x y => decide (x ≤ y) = true) := List.pairwise_mergeSort (fun a b c h1 h2 => by simp at *; omega) (fun a b => by simp; omega) l
  obtain ⟨S, hS⟩ : ∃ S, S = l.mergeSort fun x y => decide (x ≤ y) := ⟨_, rfl⟩
  have hm : ∀ y, y ∈ S ↔ y ∈ l := fun y => by rw [hS]; exact List.mem_mergeSort
  unfold uniq
  rw [← hS] at hp ⊢
  have hs : ∀ i j, i ≤ j → j < S.toArray.size → S.toArray[i]! ≤ S.toArray[j]! := by
    intro i j hij hj
    have hj' : j < S.length := by simpa using hj
    have hi' : i < S.length := by omega
    by_cases he : i = j
    · subst he; omega
    · have := List.pairwise_iff_getElem.1 hp i j hi' hj' (by omega)
      simpa [hi', hj'] using this
  obtain ⟨h1, h2⟩ := compUp S.toArray hs S.length (by simp)
  refine ⟨h1, fun y => ?_⟩
  rw [← hm y]
  refine (h2 y).trans ⟨?_, ?_⟩
  · rintro ⟨j, hj, e⟩
    rw [← e]
    simp [hj]
  · intro h
    obtain ⟨j, hj, e⟩ := List.getElem_of_mem h
    exact ⟨j, hj, by simp [hj, e]⟩
/-- one put where it belongs, if it is not there -/
def insU (x : Int) : List Int → List Int
  | [] => [x]
  | a :: r => if a < x then a :: insU x r else if a = x then a :: r else x :: a :: r
theorem insU_mem (x : Int) (s : List Int) : ∀ y, y ∈ insU x s ↔ y = x ∨ y ∈ s := by
  induction s with
  | nil => intro y; simp [insU]
  | cons a r ih =>
    intro y
    unfold insU
    by_cases h1 : a < x
    · rw [if_pos h1, List.mem_cons, ih y, List.mem_cons]
      constructor
      · rintro (h | h | h) <;> simp [h]
      · rintro (h | h | h) <;> simp [h]
    · rw [if_neg h1]
      by_cases h2 : a = x
      · rw [if_pos h2]; subst h2; simp
      · rw [if_neg h2]; simp
theorem insU_strict (x : Int) (s : List Int) (h : s.Pairwise (· < ·)) : (insU x s).Pairwise (· < ·) := by
  induction s with
  | nil => simp [insU]
  | cons a r ih =>
    rw [List.pairwise_cons] at h
    unfold insU
    by_cases h1 : a < x
    · rw [if_pos h1, List.pairwise_cons]
      refine ⟨fun y hy => ?_, ih h.2⟩
      rcases (insU_mem x r y).1 hy with e | e
      · omega
      · exact h.1 y e
    · rw [if_neg h1]
      by_cases h2 : a = x
      · rw [if_pos h2, List.pairwise_cons]; exact h
      · rw [if_neg h2, List.pairwise_cons, List.pairwise_cons]
        refine ⟨fun y hy => ?_, h⟩
        rcases List.mem_cons.1 hy with e | e
        · omega
        · have := h.1 y e; omega
theorem insU_all (l : List Int) : ∀ (s : List Int), s.Pairwise (· < ·) → (l.foldl (fun s x => insU x s) s).Pairwise (· < ·) ∧ ∀ y, y ∈ l.foldl (fun s x => insU x s) s ↔ y ∈ l ∨ y ∈ s := by
  induction l with
  | nil => intro s h; exact ⟨h, fun y => by simp⟩
  | cons x r ih =>
    intro s h
    obtain ⟨h1, h2⟩ := ih (insU x s) (insU_strict x s h)
    refine ⟨h1, fun y => ?_⟩
    rw [List.foldl_cons, h2 y, insU_mem, List.mem_cons]
    constructor
    · rintro (h | h | h) <;> simp [h]
    · rintro ((h | h) | h) <;> simp [h]
theorem uniq_ins (l : List Int) : l.foldl (fun s x => insU x s) [] = uniq l := by
  obtain ⟨h1, h2⟩ := insU_all l [] List.Pairwise.nil
  obtain ⟨h3, h4⟩ := uniq_spec l
  exact strict_eq _ _ h1 h3 (fun y => by rw [h2 y, h4 y]; simp)
end Go.Proofs.Ytgfogoplmokilaa
