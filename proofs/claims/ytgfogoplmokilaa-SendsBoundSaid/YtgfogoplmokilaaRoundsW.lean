/- Parts of a chain of lemmas: Same04, Rounds, RoundsW. Conditions: those of each theorem. -/
import Derived.Test.YtgfogoplmokilaaRefIds
import Derived.Laws.OwnMore
namespace Go.Proofs.Ytgfogoplmokilaa
open Go.RowKit
set_option linter.unusedVariables false

theorem encI_cell {w : World} {M : Nat → Prop} {A : Option Addr} {L : List Int} (hr : Rd w M A (flat encI L)) (k : Nat) (hk : k < L.length) : ∃ b o, A = some ⟨b, o, none⟩ ∧ b < w.heap.size ∧ w.cell? ⟨b, o + k, none⟩ = some (.int .i64 (nth L k)) := by
  obtain ⟨b, o, hA, _, hb, hc⟩ := hr.at_ (j := k) (by rw [encI_len]; exact hk)
  refine ⟨b, o, hA, hb, ?_⟩
  rw [hc k (by rw [encI_len]; exact hk), flat_encI, nth_of_lt hk]
  simp [hk]
end Go.Proofs.Ytgfogoplmokilaa
namespace Go.Proofs.Ytgfogoplmokilaa
open Go.RowKit
set_option linter.unusedVariables false

/-- one event more -/
def rndAdd (acc : List (List Ev)) (x : Ev) : List (List Ev) :=
  if x.k = 1 then acc ++ [[x]] else if acc.length = 0 then acc else acc.set (acc.length - 1) (acc.getD (acc.length - 1) [] ++ [x])
def roundsL (l : List Ev) : List (List Ev) := l.foldl rndAdd []
theorem rounds_succ (l : List Ev) (k : Nat) (h : k < l.length) : roundsL (l.take (k + 1)) = rndAdd (roundsL (l.take k)) (evAt l k) := by
  have e : evAt l k = l[k] := by simp [evAt, List.getD, h]
  unfold roundsL
  rw [List.take_succ_eq_append_getElem h, List.foldl_append, e]
  rfl
theorem rndAdd_len (acc : List (List Ev)) (x : Ev) : (rndAdd acc x).length ≤ acc.length + 1 := by
  unfold rndAdd
  repeat' split
  all_goals simp
/-- a row of rows of events, each the call's own and apart from the others -/
structure RdsAt (w : World) (base : Nat) (v : Value) (rs : List (List Ev)) : Prop where
  ex : ∃ vals : List Value, vals.length = rs.length ∧ w.ownsRow base 22 1 v rs.length vals ∧
    (∀ i, i < rs.length → w.ownsRow base 47 12 (vals.getD i undef) (rs.getD i []).length (flat encEv (rs.getD i []))) ∧
    (∀ i j b, i < j → j < rs.length → (vals.getD i undef).ownBlock = some b → (vals.getD j undef).ownBlock ≠ some b)
theorem RdsAt.only {w w' : World} {base : Nat} {v : Value} {rs : List (List Ev)} (h : RdsAt w base v rs) (k : Only NoBlk w w') : RdsAt w' base v rs := by
  obtain ⟨vals, h1, h2, h3, h4⟩ := h.ex
  exact ⟨⟨vals, h1, own_only h2 k (fun _ _ h => h.elim), fun i hi => own_only (h3 i hi) k (fun _ _ h => h.elim), h4⟩⟩
theorem getD_snoc_lt {α : Type} (l : List α) (a d : α) (i : Nat) (h : i < l.length) : (l ++ [a]).getD i d = l.getD i d := by
  simp [List.getD, List.getElem?_append_left h]
theorem getD_snoc_eq {α : Type} (l : List α) (a d : α) : (l ++ [a]).getD l.length d = a := by simp [List.getD]
/-- one empty row more -/
theorem RdsAt.more {w w' : World} {base : Nat} {v v' : Value} {rs : List (List Ev)} {vals : List Value} (h1 : vals.length = rs.length) (h2 : w.ownsRow base 22 1 v rs.length vals)
    (h3 : ∀ i, i < rs.length → w.ownsRow base 47 12 (vals.getD i undef) (rs.getD i []).length (flat encEv (rs.getD i [])))
    (h4 : ∀ i j b, i < j → j < rs.length → (vals.getD i undef).ownBlock = some b → (vals.getD j undef).ownBlock ≠ some b)
    (hg : w.grownBy w' v.ownBlock) (ho : w'.ownsRow base 22 1 v' (rs.length + 1) (vals ++ [.slice none 0 0])) : RdsAt w' base v' (rs ++ [[]]) := by
  refine ⟨⟨vals ++ [.slice none 0 0], by simp [h1], by simpa using ho, fun i hi => ?_, fun i j b hij hj hb => ?_⟩⟩
  · by_cases e : i < rs.length
    · rw [getD_snoc_lt _ _ _ _ (by omega), getD_snoc_lt _ _ _ _ e]
      exact own_grown (h3 i e) h2 (by decide) hg
    · have e2 : i = rs.length := by simp at hi; omega
      subst e2
      rw [getD_snoc_eq, ← h1, getD_snoc_eq]
      exact ⟨rfl, Or.inl ⟨rfl, rfl⟩⟩
  · by_cases e : j < rs.length
    · rw [getD_snoc_lt _ _ _ _ (by omega)] at hb
      rw [getD_snoc_lt _ _ _ _ (by omega)]
      exact h4 i j b hij e hb
    · have e2 : j = vals.length := by simp at hj; omega
      subst e2
      rw [getD_snoc_eq]
      simp [Value.ownBlock]
theorem getD_set_eq' {α : Type} (l : List α) (a d : α) (i : Nat) (h : i < l.length) : (l.set i a).getD i d = a := by simp [List.getD, h]
theorem getD_set_ne' {α : Type} (l : List α) (a d : α) (i j : Nat) (h : i ≠ j) : (l.set i a).getD j d = l.getD j d := by simp [List.getD, List.getElem?_set_ne h]
/-- an event more in the last row -/
theorem RdsAt.grow {w w2 : World} {base m g cap : Nat} {vl' : Value} {rs : List (List Ev)} {vals : List Value} {x : Ev} (hm : rs.length = m + 1) (h1 : vals.length = rs.length) (h2 : w.ownsRow base 22 1 (.slice (some ⟨g, 0, none⟩) (m + 1) cap) (m + 1) vals)
    (h3 : ∀ i, i < rs.length → w.ownsRow base 47 12 (vals.getD i undef) (rs.getD i []).length (flat encEv (rs.getD i [])))
    (h4 : ∀ i j b, i < j → j < rs.length → (vals.getD i undef).ownBlock = some b → (vals.getD j undef).ownBlock ≠ some b)
    (hg : w.grownBy w2 (vals.getD m undef).ownBlock) (ho : w2.ownsRow base 47 12 vl' ((rs.getD m []).length + 1) (flat encEv (rs.getD m []) ++ encEv x))
    (hb : vl'.ownBlock = (vals.getD m undef).ownBlock ∨ vl'.ownBlock = some w.heap.size) : RdsAt (w2.setCell ⟨g, m, none⟩ vl') base (.slice (some ⟨g, 0, none⟩) (m + 1) cap) (rs.set m (rs.getD m [] ++ [x])) := by
  have o2 := own_grown h2 (h3 m (by omega)) (by decide) hg
  have o3 := (o2.stored m vl').1
  have kg := only_set w2 g m vl'
  have nt : ∀ (gg : Nat) (cs : Array Value), gg = g → ¬ Blk w2 gg 47 cs := by
    intro gg cs e hx
    subst e
    rcases o2.2 with ⟨hv, _⟩ | ⟨g', cap', cur, hv, _, hh, _⟩
    · cases hv
    · injection hv with hv
      injection hv with hv
      injection hv with hv
      subst hv
      exact Blk.ne_ hx (show Blk w2 gg 22 cur from hh) (by decide) rfl
  refine ⟨⟨vals.set m vl', by simp [h1], by simpa [hm] using o3, fun i hi => ?_, fun i j b hij hj hb' => ?_⟩⟩
  · rw [List.length_set] at hi
    by_cases e : i = m
    · subst e
      rw [getD_set_eq' _ _ _ _ (by omega), getD_set_eq' _ _ _ _ (by omega), List.length_append]
      have e1 : flat encEv (rs.getD i [] ++ [x]) = flat encEv (rs.getD i []) ++ encEv x := by rw [flat_append]; simp [flat]
      rw [e1]
      exact own_only ho kg nt
    · rw [getD_set_ne' _ _ _ _ _ (fun h => e h.symm), getD_set_ne' _ _ _ _ _ (fun h => e h.symm)]
      refine own_only ((h3 i hi).kept hg ?_) kg nt
      cases hq : (vals.getD i undef).ownBlock with
      | none => exact Or.inl rfl
      | some b => exact Or.inr (fun h => h4 i m b (by omega) (by omega) hq h.symm)
  · rw [List.length_set] at hj
    have hil : i ≠ m := by omega
    rw [getD_set_ne' _ _ _ _ _ (fun h => hil h.symm)] at hb'
    by_cases e : j = m
    · subst e
      rw [getD_set_eq' _ _ _ _ (by omega)]
      rcases hb with hb | hb
      · rw [hb]; exact h4 i j b hij hj hb'
      · rw [hb]
        have := ((h3 i (by omega)).lt b hb').2
        intro h
        injection h with h
        omega
    · rw [getD_set_ne' _ _ _ _ _ (fun h => e h.symm)]
      exact h4 i j b hij hj hb'
theorem Try.infoEvs : (Try.prog.info? 22).map (fun i => (i.zero, i.size, i.bytes)) = some (some (.slice none 0 0), 1, 24) := by kernel_rfl
end Go.Proofs.Ytgfogoplmokilaa
namespace Go.Proofs.Ytgfogoplmokilaa
open Go.RowKit
set_option linter.unusedVariables false

/-- how long rows may be behind k events -/
def RLen (rs : List (List Ev)) (k : Nat) : Prop := rs.length ≤ k ∧ ∀ i, (rs.getD i []).length ≤ k
theorem RLen.add {rs : List (List Ev)} {k : Nat} (h : RLen rs k) (x : Ev) : RLen (rndAdd rs x) (k + 1) := by
  refine ⟨by have := rndAdd_len rs x; have := h.1; omega, fun i => ?_⟩
  unfold rndAdd
  by_cases h1 : x.k = 1
  · rw [if_pos h1]
    by_cases e : i < rs.length
    · rw [getD_snoc_lt _ _ _ _ e]; have := h.2 i; omega
    · by_cases e2 : i = rs.length
      · subst e2; rw [getD_snoc_eq]; simp
      · have : (rs ++ [[x]]).getD i [] = [] := by simp [List.getD, List.getElem?_eq_none (show (rs ++ [[x]]).length ≤ i by simp; omega)]
        rw [this]; simp
  · rw [if_neg h1]
    by_cases h2 : rs.length = 0
    · rw [if_pos h2]; have := h.2 i; omega
    · rw [if_neg h2]
      by_cases e : rs.length - 1 = i
      · subst e
        rw [getD_set_eq' _ _ _ _ (by omega), List.length_append]
        have := h.2 (rs.length - 1); simp only [List.length_cons, List.length_nil]; omega
      · rw [getD_set_ne' _ _ _ _ _ e]; have := h.2 i; omega
theorem RLen.more {rs : List (List Ev)} {k : Nat} (h : RLen rs k) (i : Nat) : ((rs ++ [[]]).getD i []).length ≤ k := by
  by_cases e : i < rs.length
  · rw [getD_snoc_lt _ _ _ _ e]; exact h.2 i
  · by_cases e2 : i = rs.length
    · subst e2; rw [getD_snoc_eq]; simp
    · have : (rs ++ [[]]).getD i [] = ([] : List Ev) := by simp [List.getD, List.getElem?_eq_none (show (rs ++ [([] : List Ev)]).length ≤ i by simp; omega)]
      rw [this]; simp
theorem set_snoc {α : Type} (l : List α) (a b : α) : (l ++ [a]).set l.length b = l ++ [b] := by simp
/-- what Rounds returns -/
def RetRds (l : List Ev) (w : World) (e : Ending) (w' : World) : Prop :=
  Below w.heap.size w w' ∧ ∃ A c vals, e = .returned (.slice A (roundsL l).length c) ∧ vals.length = (roundsL l).length ∧ Rd w' NoBlk A vals ∧
    ∀ i, i < (roundsL l).length → ∃ A2 c2, vals[i]? = some (.slice A2 ((roundsL l).getD i []).length c2) ∧ Rd w' NoBlk A2 (flat encEv ((roundsL l).getD i [])) ∧ ((roundsL l).getD i []).length ≤ c2
end Go.Proofs.Ytgfogoplmokilaa
