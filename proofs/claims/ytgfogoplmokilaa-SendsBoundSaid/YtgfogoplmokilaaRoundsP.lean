/- Rounds and clocks: the plain law. Conditions: those of each theorem. -/
import Derived.Test.YtgfogoplmokilaaRoundsW
namespace Go.Proofs.Ytgfogoplmokilaa
open Go.RowKit
set_option linter.unusedVariables false

def skipP (x : Ev) : Bool := decide (x.k ≠ 1)
structure RndP (p : List Ev) : Prop where
  flat : (roundsL p).flatten = p.dropWhile skipP
  head : ∀ r ∈ roundsL p, ∃ y t, r = y :: t ∧ y.k = 1
  clk : clocksL p = (roundsL p).map (fun r => (r.headD evD).tick)
theorem rndP_snoc {p : List Ev} (x : Ev) (hr : roundsL (p ++ [x]) = rndAdd (roundsL p) x) (hc : clocksL (p ++ [x]) = clocksL p ++ (if x.k = 1 then [x.tick] else [])) (h : RndP p) : RndP (p ++ [x]) := by
  have h1 := h.flat; have h2 := h.head; have h3 := h.clk
  by_cases hk : x.k = 1
  · have e : rndAdd (roundsL p) x = roundsL p ++ [[x]] := by unfold rndAdd; rw [if_pos hk]
    refine ⟨?_, ?_, ?_⟩
    · rw [hr, e, List.flatten_append, h1, List.dropWhile_append]
      have hd : [x].dropWhile skipP = [x] := by simp [List.dropWhile, skipP, hk]
      by_cases he : (p.dropWhile skipP).isEmpty = true
      · rw [if_pos he, hd, List.isEmpty_iff.1 he]; rfl
      · rw [if_neg he]; rfl
    · rw [hr, e]
      intro r hm
      rcases List.mem_append.1 hm with hm | hm
      · exact h2 r hm
      · have : r = [x] := by simpa using hm
        exact ⟨x, [], this, hk⟩
    · rw [hc, hr, e, if_pos hk, List.map_append, h3]; rfl
  · by_cases h0 : (roundsL p).length = 0
    · have e : rndAdd (roundsL p) x = roundsL p := by unfold rndAdd; rw [if_neg hk, if_pos h0]
      have e0 : roundsL p = [] := List.eq_nil_of_length_eq_zero h0
      refine ⟨?_, ?_, ?_⟩
      · rw [hr, e, h1, List.dropWhile_append]
        have hd : [x].dropWhile skipP = [] := by simp [List.dropWhile, skipP, hk]
        have hp : p.dropWhile skipP = [] := by rw [← h1, e0]; rfl
        rw [hp, hd]; rfl
      · rw [hr, e]; exact h2
      · rw [hc, hr, e, if_neg hk, List.append_nil, h3]
    · obtain ⟨pre, r, hpr⟩ : ∃ pre r, roundsL p = pre ++ [r] := by
        rcases List.eq_nil_or_concat (roundsL p) with h' | ⟨pre, r, h'⟩
        · rw [h'] at h0; exact absurd rfl h0
        · exact ⟨pre, r, by rw [h', List.concat_eq_append]⟩
      have e : rndAdd (roundsL p) x = pre ++ [r ++ [x]] := by
        unfold rndAdd
        rw [if_neg hk, if_neg h0, hpr, List.length_append]
        show (pre ++ [r]).set (pre.length + 1 - 1) ((pre ++ [r]).getD (pre.length + 1 - 1) [] ++ [x]) = _
        rw [Nat.add_sub_cancel, getD_snoc_eq, set_snoc]
      rw [hpr] at h1 h2 h3
      obtain ⟨y, t, hy, hyk⟩ := h2 r (by simp)
      refine ⟨?_, ?_, ?_⟩
      · rw [hr, e, List.dropWhile_append]
        have hne : (p.dropWhile skipP).isEmpty = false := by rw [← h1, hy]; simp
        rw [hne]
        simp only [Bool.false_eq_true, if_false]
        rw [← h1]
        simp
      · rw [hr, e]
        intro q hm
        rcases List.mem_append.1 hm with hm | hm
        · exact h2 q (by simp [hm])
        · have : q = r ++ [x] := by simpa using hm
          exact ⟨y, t ++ [x], by rw [this, hy]; rfl, hyk⟩
      · rw [hc, hr, e, if_neg hk, List.append_nil, h3, List.map_append, List.map_append, hy]
        rfl
theorem rndP (l : List Ev) : RndP l := by
  have key : ∀ k, k ≤ l.length → RndP (l.take k) := by
    intro k
    induction k with
    | zero => intro _; exact ⟨rfl, fun r hr => by simp [roundsL] at hr, rfl⟩
    | succ k ih =>
      intro hk
      have e : evAt l k = l[k]'(by omega) := by simp [evAt, List.getD, show k < l.length by omega]
      have hs : l.take (k + 1) = l.take k ++ [evAt l k] := by rw [List.take_succ_eq_append_getElem (by omega), e]
      have h1 := rounds_succ l k (by omega)
      have h2 := clocks_succ l k (by omega)
      rw [hs] at h1 h2 ⊢
      exact rndP_snoc _ h1 h2 (ih (by omega))
  have := key l.length (Nat.le_refl _)
  rwa [List.take_length] at this
theorem flatten_piece {α : Type} (rs : List (List α)) (i : Nat) (d : List α) (h : i < rs.length) : (rs.flatten.drop (rs.take i).flatten.length).take (rs.getD i d).length = rs.getD i d ∧ (rs.take i).flatten.length + (rs.getD i d).length = (rs.take (i + 1)).flatten.length := by
  have e : rs.getD i d = rs[i] := by simp [List.getD, h]
  have hs : rs = rs.take i ++ rs[i] :: rs.drop (i + 1) := by rw [List.getElem_cons_drop, List.take_append_drop]
  refine ⟨?_, ?_⟩
  · have hf : rs.flatten = (rs.take i).flatten ++ (rs[i] ++ (rs.drop (i + 1)).flatten) := by
      conv => lhs; rw [hs]
      rw [List.flatten_append, List.flatten_cons]
    rw [hf, e, List.drop_left, List.take_left]
  · rw [e, List.take_succ_eq_append_getElem h, List.flatten_append, List.length_append]
    simp
theorem dropWhile_at {l : List Ev} {s : Nat} (hs : s ≤ l.length) (h1 : ∀ i, i < s → (evAt l i).k ≠ 1) (h2 : s < l.length → (evAt l s).k = 1) : l.dropWhile skipP = l.drop s := by
  induction l generalizing s with
  | nil => simp
  | cons a r ih =>
    cases s with
    | zero =>
      have : a.k = 1 := by have := h2 (by simp); simpa [evAt] using this
      simp [List.dropWhile, skipP, this]
    | succ s =>
      have ha : a.k ≠ 1 := by have := h1 0 (by omega); simpa [evAt] using this
      have := ih (s := s) (by simpa using hs) (fun i hi => by have := h1 (i + 1) (by omega); simpa [evAt] using this) (fun hl => by have := h2 (by simp; exact hl); simpa [evAt] using this)
      rw [List.drop_succ_cons, ← this]
      simp [List.dropWhile, skipP, ha]
/-- where the i-th round begins -/
def offL (l : List Ev) (s i : Nat) : Nat := s + ((roundsL l).take i).flatten.length
structure PieceP (l : List Ev) (s i : Nat) : Prop where
  pos : 0 < ((roundsL l).getD i []).length
  le : offL l s i + ((roundsL l).getD i []).length ≤ l.length
  eq : (l.drop (offL l s i)).take ((roundsL l).getD i []).length = (roundsL l).getD i []
  next : offL l s (i + 1) = offL l s i + ((roundsL l).getD i []).length
  clk : nth (clocksL l) i = (evAt l (offL l s i)).tick
theorem pieceP {l : List Ev} {s i : Nat} (hs : s ≤ l.length) (h1 : ∀ i, i < s → (evAt l i).k ≠ 1) (h2 : s < l.length → (evAt l s).k = 1) (hi : i < (roundsL l).length) : PieceP l s i := by
  have hp := rndP l
  have hd := dropWhile_at hs h1 h2
  have hf := hp.flat
  rw [hd] at hf
  obtain ⟨e1, e2⟩ := flatten_piece (roundsL l) i [] hi
  have hmem : (roundsL l).getD i [] ∈ roundsL l := by
    have : (roundsL l).getD i [] = (roundsL l)[i] := by simp [List.getD, hi]
    rw [this]; exact List.getElem_mem _
  obtain ⟨y, t, hy, hyk⟩ := hp.head _ hmem
  have heq : (l.drop (offL l s i)).take ((roundsL l).getD i []).length = (roundsL l).getD i [] := by
    unfold offL
    rw [← List.drop_drop, ← hf]
    exact e1
  have hpos : 0 < ((roundsL l).getD i []).length := by rw [hy]; simp
  have hle : offL l s i + ((roundsL l).getD i []).length ≤ l.length := by
    have := congrArg List.length heq
    rw [List.length_take, List.length_drop] at this
    omega
  refine ⟨hpos, hle, heq, by unfold offL; rw [← e2]; omega, ?_⟩
  have hc := hp.clk
  have hlt : offL l s i < l.length := by omega
  have hhead : evAt l (offL l s i) = y := by
    have : ((l.drop (offL l s i)).take ((roundsL l).getD i []).length)[0]? = some y := by rw [heq, hy]; rfl
    rw [List.getElem?_take, if_pos hpos, List.getElem?_drop, Nat.add_zero] at this
    simp [evAt, List.getD, this]
  rw [hhead, hc]
  have : (roundsL l)[i]? = some (y :: t) := by rw [← hy]; simp [List.getD, hi]
  simp [nth, List.getD, this]
theorem off_end {l : List Ev} {s : Nat} (hs : s ≤ l.length) (h1 : ∀ i, i < s → (evAt l i).k ≠ 1) (h2 : s < l.length → (evAt l s).k = 1) : offL l s (roundsL l).length = l.length := by
  have hf := (rndP l).flat
  rw [dropWhile_at hs h1 h2] at hf
  unfold offL
  rw [List.take_length, hf, List.length_drop]; omega
theorem clk_len (l : List Ev) : (clocksL l).length = (roundsL l).length := by rw [(rndP l).clk, List.length_map]
theorem cnt_succ (l : List Ev) (k : Nat) (h : k < l.length) : (clocksL (l.take (k + 1))).length = (clocksL (l.take k)).length + (if (evAt l k).k = 1 then 1 else 0) := by
  rw [clocks_succ l k h, List.length_append]
  by_cases e : (evAt l k).k = 1 <;> simp [e]
end Go.Proofs.Ytgfogoplmokilaa
