/- Parts of a chain of lemmas: Same04, Rounds, RoundsW, RoundsP. Conditions: those of each theorem. -/
import Derived.Test.YtdmdohjdmnmabaaGreatQw20
import Derived.Laws.OwnMore
namespace Go.Proofs.YtdmdohjdmnmabaaGreat
open Go.RowKit
set_option linter.unusedVariables false

theorem encI_cell {w : World} {M : Nat → Prop} {A : Option Addr} {L : List Int} (hr : Rd w M A (flat encI L)) (k : Nat) (hk : k < L.length) : ∃ b o, A = some ⟨b, o, none⟩ ∧ b < w.heap.size ∧ w.cell? ⟨b, o + k, none⟩ = some (.int .i64 (nth L k)) := by
 obtain ⟨b, o, hA, _, hb, hc⟩ := hr.at_ (j := k) (by rw [encI_len]; exact hk)
 refine ⟨b, o, hA, hb, ?_⟩
 rw [hc k (by rw [encI_len]; exact hk), flat_encI, nth_of_lt hk]
 simp [hk]
end Go.Proofs.YtdmdohjdmnmabaaGreat
namespace Go.Proofs.YtdmdohjdmnmabaaGreat
open Go.RowKit
set_option linter.unusedVariables false

/-- one event more -/
def rndAdd (acc : List (List Ev)) (x : Ev) : List (List Ev) :=
 if x.k = 1 then acc ++ [[x]] else if acc.length = 0 then acc else acc.set (acc.length - 1) (acc.getD (acc.length - 1) [] ++ [x])
def roundsL (l : List Ev) : List (List Ev) := l.foldl rndAdd []
theorem rounds_succ (l : List Ev) (k : Nat) (h : k < l.length) : roundsL (l.take (k + 1)) = rndAdd (roundsL (l.take k)) (evAt l k) := by
 have e : evAt l k = l[k] := by simp [evAt, List.getD, h]
 unfold roundsL
 rw [List.take_succ_eq_append_getElem h, List.foldl_append, e]
 rfl
theorem rndAdd_len (acc : List (List Ev)) (x : Ev) : (rndAdd acc x).length ≤ acc.length + 1 := by
 unfold rndAdd
 repeat' split
 all_goals simp
/-- a row of rows of events, each the call's own and apart from the others -/
structure RdsAt (w : World) (base : Nat) (v : Value) (rs : List (List Ev)) : Prop where
 ex : ∃ vals : List Value, vals.length = rs.length ∧ w.ownsRow base 38 1 v rs.length vals ∧
  (∀ i, i < rs.length → w.ownsRow base 82 12 (vals.getD i undef) (rs.getD i []).length (flat encEv (rs.getD i []))) ∧
  (∀ i j b, i < j → j < rs.length → (vals.getD i undef).ownBlock = some b → (vals.getD j undef).ownBlock ≠ some b)
theorem RdsAt.only {w w' : World} {base : Nat} {v : Value} {rs : List (List Ev)} (h : RdsAt w base v rs) (k : Only NoBlk w w') : RdsAt w' base v rs := by
 obtain ⟨vals, h1, h2, h3, h4⟩ := h.ex
 exact ⟨⟨vals, h1, own_only h2 k (fun _ _ h => h.elim), fun i hi => own_only (h3 i hi) k (fun _ _ h => h.elim), h4⟩⟩
theorem getD_snoc_lt {α : Type} (l : List α) (a d : α) (i : Nat) (h : i < l.length) : (l ++ [a]).getD i d = l.getD i d := by
 simp [List.getD, List.getElem?_append_left h]
theorem getD_snoc_eq {α : Type} (l : List α) (a d : α) : (l ++ [a]).getD l.length d = a := by simp [List.getD]
/-- one empty row more -/
theorem RdsAt.more {w w' : World} {base : Nat} {v v' : Value} {rs : List (List Ev)} {vals : List Value} (h1 : vals.length = rs.length) (h2 : w.ownsRow base 38 1 v rs.length vals)
 (h3 : ∀ i, i < rs.length → w.ownsRow base 82 12 (vals.getD i undef) (rs.getD i []).length (flat encEv (rs.getD i [])))
 (h4 : ∀ i j b, i < j → j < rs.length → (vals.getD i undef).ownBlock = some b → (vals.getD j undef).ownBlock ≠ some b)
 (hg : w.grownBy w' v.ownBlock) (ho : w'.ownsRow base 38 1 v' (rs.length + 1) (vals ++ [.slice none 0 0])) : RdsAt w' base v' (rs ++ [[]]) := by
 refine ⟨⟨vals ++ [.slice none 0 0], by simp [h1], by simpa using ho, fun i hi => ?_, fun i j b hij hj hb => ?_⟩⟩
 ·by_cases e : i < rs.length
  ·rw [getD_snoc_lt _ _ _ _ (by omega), getD_snoc_lt _ _ _ _ e]
   exact own_grown (h3 i e) h2 (by decide) hg
  ·have e2 : i = rs.length := by simp at hi; omega
   subst e2
   rw [getD_snoc_eq, ← h1, getD_snoc_eq]
   exact ⟨rfl, Or.inl ⟨rfl, rfl⟩⟩
 ·by_cases e : j < rs.length
  ·rw [getD_snoc_lt _ _ _ _ (by omega)] at hb
   rw [getD_snoc_lt _ _ _ _ (by omega)]
   exact h4 i j b hij e hb
  ·have e2 : j = vals.length := by simp at hj; omega
   subst e2
   rw [getD_snoc_eq]
   simp [Value.ownBlock]
theorem getD_set_eq' {α : Type} (l : List α) (a d : α) (i : Nat) (h : i < l.length) : (l.set i a).getD i d = a := by simp [List.getD, h]
theorem getD_set_ne' {α : Type} (l : List α) (a d : α) (i j : Nat) (h : i ≠ j) : (l.set i a).getD j d = l.getD j d := by simp [List.getD, List.getElem?_set_ne h]
/-- an event more in the last row -/
theorem RdsAt.grow {w w2 : World} {base m g cap : Nat} {vl' : Value} {rs : List (List Ev)} {vals : List Value} {x : Ev} (hm : rs.length = m + 1) (h1 : vals.length = rs.length) (h2 : w.ownsRow base 38 1 (.slice (some ⟨g, 0, none⟩) (m + 1) cap) (m + 1) vals)
 (h3 : ∀ i, i < rs.length → w.ownsRow base 82 12 (vals.getD i undef) (rs.getD i []).length (flat encEv (rs.getD i [])))
 (h4 : ∀ i j b, i < j → j < rs.length → (vals.getD i undef).ownBlock = some b → (vals.getD j undef).ownBlock ≠ some b)
 (hg : w.grownBy w2 (vals.getD m undef).ownBlock) (ho : w2.ownsRow base 82 12 vl' ((rs.getD m []).length + 1) (flat encEv (rs.getD m []) ++ encEv x))
 (hb : vl'.ownBlock = (vals.getD m undef).ownBlock ∨ vl'.ownBlock = some w.heap.size) : RdsAt (w2.setCell ⟨g, m, none⟩ vl') base (.slice (some ⟨g, 0, none⟩) (m + 1) cap) (rs.set m (rs.getD m [] ++ [x])) := by
 have o2 := own_grown h2 (h3 m (by omega)) (by decide) hg
 have o3 := (o2.stored m vl').1
 have kg := only_set w2 g m vl'
 have nt : ∀ (gg : Nat) (cs : Array Value), gg = g → ¬ Blk w2 gg 82 cs := by
  intro gg cs e hx
  subst e
  rcases o2.2 with ⟨hv, _⟩ | ⟨g', cap', cur, hv, _, hh, _⟩
  ·cases hv
  ·injection hv with hv
   injection hv with hv
   injection hv with hv
   subst hv
   exact Blk.ne_ hx (show Blk w2 gg 38 cur from hh) (by decide) rfl
 refine ⟨⟨vals.set m vl', by simp [h1], by simpa [hm] using o3, fun i hi => ?_, fun i j b hij hj hb' => ?_⟩⟩
 ·rw [List.length_set] at hi
  by_cases e : i = m
  ·subst e
   rw [getD_set_eq' _ _ _ _ (by omega), getD_set_eq' _ _ _ _ (by omega), List.length_append]
   have e1 : flat encEv (rs.getD i [] ++ [x]) = flat encEv (rs.getD i []) ++ encEv x := by rw [flat_append]; simp [flat]
   rw [e1]
   exact own_only ho kg nt
  ·rw [getD_set_ne' _ _ _ _ _ (fun h => e h.symm), getD_set_ne' _ _ _ _ _ (fun h => e h.symm)]
   refine own_only ((h3 i hi).kept hg ?_) kg nt
   cases hq : (vals.getD i undef).ownBlock with
   | none => exact Or.inl rfl
   | some b => exact Or.inr (fun h => h4 i m b (by omega) (by omega) hq h.symm)
 ·rw [List.length_set] at hj
  have hil : i ≠ m := by omega
  rw [getD_set_ne' _ _ _ _ _ (fun h => hil h.symm)] at hb'
  by_cases e : j = m
  ·subst e
   rw [getD_set_eq' _ _ _ _ (by omega)]
   rcases hb with hb | hb
   ·rw [hb]; exact h4 i j b hij hj hb'
   ·rw [hb]
    have := ((h3 i (by omega)).lt b hb').2
    intro h
    injection h with h
    omega
  ·rw [getD_set_ne' _ _ _ _ _ (fun h => e h.symm)]
   exact h4 i j b hij hj hb'
theorem Tryz.infoEvs : (Tryz.prog.info? 38).map (fun i => (i.zero, i.size, i.bytes)) = some (some (.slice none 0 0), 1, 24) := by kernel_rfl
end Go.Proofs.YtdmdohjdmnmabaaGreat
namespace Go.Proofs.YtdmdohjdmnmabaaGreat
open Go.RowKit
set_option linter.unusedVariables false

/-- how long rows may be behind k events -/
def RLen (rs : List (List Ev)) (k : Nat) : Prop := rs.length ≤ k ∧ ∀ i, (rs.getD i []).length ≤ k
theorem RLen.add {rs : List (List Ev)} {k : Nat} (h : RLen rs k) (x : Ev) : RLen (rndAdd rs x) (k + 1) := by
 refine ⟨by have := rndAdd_len rs x; have := h.1; omega, fun i => ?_⟩
 unfold rndAdd
 by_cases h1 : x.k = 1
 ·rw [if_pos h1]
  by_cases e : i < rs.length
  ·rw [getD_snoc_lt _ _ _ _ e]; have := h.2 i; omega
  ·by_cases e2 : i = rs.length
   ·subst e2; rw [getD_snoc_eq]; simp
   ·have : (rs ++ [[x]]).getD i [] = [] := by simp [List.getD, List.getElem?_eq_none (show (rs ++ [[x]]).length ≤ i by simp; omega)]
    rw [this]; simp
 ·rw [if_neg h1]
  by_cases h2 : rs.length = 0
  ·rw [if_pos h2]; have := h.2 i; omega
  ·rw [if_neg h2]
   by_cases e : rs.length - 1 = i
   ·subst e
    rw [getD_set_eq' _ _ _ _ (by omega), List.length_append]
    have := h.2 (rs.length - 1); simp only [List.length_cons, List.length_nil]; omega
   ·rw [getD_set_ne' _ _ _ _ _ e]; have := h.2 i; omega
theorem RLen.more {rs : List (List Ev)} {k : Nat} (h : RLen rs k) (i : Nat) : ((rs ++ [[]]).getD i []).length ≤ k := by
 by_cases e : i < rs.length
 ·rw [getD_snoc_lt _ _ _ _ e]; exact h.2 i
 ·by_cases e2 : i = rs.length
  ·subst e2; rw [getD_snoc_eq]; simp
  ·have : (rs ++ [[]]).getD i [] = ([] : List Ev) := by simp [List.getD, List.getElem?_eq_none (show (rs ++ [([] : List Ev)]).length ≤ i by simp; omega)]
   rw [this]; simp
theorem set_snoc {α : Type} (l : List α) (a b : α) : (l ++ [a]).set l.length b = l ++ [b] := by simp
/-- what Rounds returns -/
def RetRds (l : List Ev) (w : World) (e : Ending) (w' : World) : Prop :=
 Below w.heap.size w w' ∧ ∃ A c vals, e = .returned (.slice A (roundsL l).length c) ∧ vals.length = (roundsL l).length ∧ Rd w' NoBlk A vals ∧
  ∀ i, i < (roundsL l).length → ∃ A2 c2, vals[i]? = some (.slice A2 ((roundsL l).getD i []).length c2) ∧ Rd w' NoBlk A2 (flat encEv ((roundsL l).getD i [])) ∧ ((roundsL l).getD i []).length ≤ c2
end Go.Proofs.YtdmdohjdmnmabaaGreat
namespace Go.Proofs.YtdmdohjdmnmabaaGreat
open Go.RowKit
set_option linter.unusedVariables false

def skipP (x : Ev) : Bool := decide (x.k ≠ 1)
structure RndP (p : List Ev) : Prop where
 flat : (roundsL p).flatten = p.dropWhile skipP
 head : ∀ r ∈ roundsL p, ∃ y t, r = y :: t ∧ y.k = 1
 clk : clocksL p = (roundsL p).map (fun r => (r.headD evD).tick)
theorem rndP_snoc {p : List Ev} (x : Ev) (hr : roundsL (p ++ [x]) = rndAdd (roundsL p) x) (hc : clocksL (p ++ [x]) = clocksL p ++ (if x.k = 1 then [x.tick] else [])) (h : RndP p) : RndP (p ++ [x]) := by
 have h1 := h.flat; have h2 := h.head; have h3 := h.clk
 by_cases hk : x.k = 1
 ·have e : rndAdd (roundsL p) x = roundsL p ++ [[x]] := by unfold rndAdd; rw [if_pos hk]
  refine ⟨?_, ?_, ?_⟩
  ·rw [hr, e, List.flatten_append, h1, List.dropWhile_append]
   have hd : [x].dropWhile skipP = [x] := by simp [List.dropWhile, skipP, hk]
   by_cases he : (p.dropWhile skipP).isEmpty = true
   ·rw [if_pos he, hd, List.isEmpty_iff.1 he]; rfl
   ·rw [if_neg he]; rfl
  ·rw [hr, e]
   intro r hm
   rcases List.mem_append.1 hm with hm | hm
   ·exact h2 r hm
   ·have : r = [x] := by simpa using hm
    exact ⟨x, [], this, hk⟩
  ·rw [hc, hr, e, if_pos hk, List.map_append, h3]; rfl
 ·by_cases h0 : (roundsL p).length = 0
  ·have e : rndAdd (roundsL p) x = roundsL p := by unfold rndAdd; rw [if_neg hk, if_pos h0]
   have e0 : roundsL p = [] := List.eq_nil_of_length_eq_zero h0
   refine ⟨?_, ?_, ?_⟩
   ·rw [hr, e, h1, List.dropWhile_append]
    have hd : [x].dropWhile skipP = [] := by simp [List.dropWhile, skipP, hk]
    have hp : p.dropWhile skipP = [] := by rw [← h1, e0]; rfl
    rw [hp, hd]; rfl
   ·rw [hr, e]; exact h2
   ·rw [hc, hr, e, if_neg hk, List.append_nil, h3]
  ·obtain ⟨pre, r, hpr⟩ : ∃ pre r, roundsL p = pre ++ [r] := by
    rcases List.eq_nil_or_concat (roundsL p) with h' | ⟨pre, r, h'⟩
    ·rw [h'] at h0; exact absurd rfl h0
    ·exact ⟨pre, r, by rw [h', List.concat_eq_append]⟩
   have e : rndAdd (roundsL p) x = pre ++ [r ++ [x]] := by
    unfold rndAdd
    rw [if_neg hk, if_neg h0, hpr, List.length_append]
    show (pre ++ [r]).set (pre.length + 1 - 1) ((pre ++ [r]).getD (pre.length + 1 - 1) [] ++ [x]) = _
    rw [Nat.add_sub_cancel, getD_snoc_eq, set_snoc]
   rw [hpr] at h1 h2 h3
   obtain ⟨y, t, hy, hyk⟩ := h2 r (by simp)
   refine ⟨?_, ?_, ?_⟩
   ·rw [hr, e, List.dropWhile_append]
    have hne : (p.dropWhile skipP).isEmpty = false := by rw [← h1, hy]; simp
    rw [hne]
    simp only [Bool.false_eq_true, if_false]
    rw [← h1]
    simp
   ·rw [hr, e]
    intro q hm
    rcases List.mem_append.1 hm with hm | hm
    ·exact h2 q (by simp [hm])
    ·have : q = r ++ [x] := by simpa using hm
     exact ⟨y, t ++ [x], by rw [this, hy]; rfl, hyk⟩
   ·rw [hc, hr, e, if_neg hk, List.append_nil, h3, List.map_append, List.map_append, hy]
    rfl
theorem rndP (l : List Ev) : RndP l := by
 have key : ∀ k, k ≤ l.length → RndP (l.take k) := by
  intro k
  induction k with
  | zero => intro _; exact ⟨rfl, fun r hr => by simp [roundsL] at hr, rfl⟩
  | succ k ih =>
   intro hk
   have e : evAt l k = l[k]'(by omega) := by simp [evAt, List.getD, show k < l.length by omega]
   have hs : l.take (k + 1) = l.take k ++ [evAt l k] := by rw [List.take_succ_eq_append_getElem (by omega), e]
   have h1 := rounds_succ l k (by omega)
   have h2 := clocks_succ l k (by omega)
   rw [hs] at h1 h2 ⊢
   exact rndP_snoc _ h1 h2 (ih (by omega))
 have := key l.length (Nat.le_refl _)
 rwa [List.take_length] at this
theorem flatten_piece {α : Type} (rs : List (List α)) (i : Nat) (d : List α) (h : i < rs.length) : (rs.flatten.drop (rs.take i).flatten.length).take (rs.getD i d).length = rs.getD i d ∧ (rs.take i).flatten.length + (rs.getD i d).length = (rs.take (i + 1)).flatten.length := by
 have e : rs.getD i d = rs[i] := by simp [List.getD, h]
 have hs : rs = rs.take i ++ rs[i] :: rs.drop (i + 1) := by rw [List.getElem_cons_drop, List.take_append_drop]
 refine ⟨?_, ?_⟩
 ·have hf : rs.flatten = (rs.take i).flatten ++ (rs[i] ++ (rs.drop (i + 1)).flatten) := by
   conv => lhs; rw [hs]
   rw [List.flatten_append, List.flatten_cons]
  rw [hf, e, List.drop_left, List.take_left]
 ·rw [e, List.take_succ_eq_append_getElem h, List.flatten_append, List.length_append]
  simp
theorem dropWhile_at {l : List Ev} {s : Nat} (hs : s ≤ l.length) (h1 : ∀ i, i < s → (evAt l i).k ≠ 1) (h2 : s < l.length → (evAt l s).k = 1) : l.dropWhile skipP = l.drop s := by
 induction l generalizing s with
 | nil => simp
 | cons a r ih =>
  cases s with
  | zero =>
   have : a.k = 1 := by have := h2 (by simp); simpa [evAt] using this
   simp [List.dropWhile, skipP, this]
  | succ s =>
   have ha : a.k ≠ 1 := by have := h1 0 (by omega); simpa [evAt] using this
   have := ih (s := s) (by simpa using hs) (fun i hi => by have := h1 (i + 1) (by omega); simpa [evAt] using this) (fun hl => by have := h2 (by simp; exact hl); simpa [evAt] using this)
   rw [List.drop_succ_cons, ← this]
   simp [List.dropWhile, skipP, ha]
/-- where the i-th round begins -/
def offL (l : List Ev) (s i : Nat) : Nat := s + ((roundsL l).take i).flatten.length
structure PieceP (l : List Ev) (s i : Nat) : Prop where
 pos : 0 < ((roundsL l).getD i []).length
 le : offL l s i + ((roundsL l).getD i []).length ≤ l.length
 eq : (l.drop (offL l s i)).take ((roundsL l).getD i []).length = (roundsL l).getD i []
 next : offL l s (i + 1) = offL l s i + ((roundsL l).getD i []).length
 clk : nth (clocksL l) i = (evAt l (offL l s i)).tick
theorem pieceP {l : List Ev} {s i : Nat} (hs : s ≤ l.length) (h1 : ∀ i, i < s → (evAt l i).k ≠ 1) (h2 : s < l.length → (evAt l s).k = 1) (hi : i < (roundsL l).length) : PieceP l s i := by
 have hp := rndP l
 have hd := dropWhile_at hs h1 h2
 have hf := hp.flat
 rw [hd] at hf
 obtain ⟨e1, e2⟩ := flatten_piece (roundsL l) i [] hi
 have hmem : (roundsL l).getD i [] ∈ roundsL l := by
  have : (roundsL l).getD i [] = (roundsL l)[i] := by simp [List.getD, hi]
  rw [this]; exact List.getElem_mem _
 obtain ⟨y, t, hy, hyk⟩ := hp.head _ hmem
 have heq : (l.drop (offL l s i)).take ((roundsL l).getD i []).length = (roundsL l).getD i [] := by
  unfold offL
  rw [← List.drop_drop, ← hf]
  exact e1
 have hpos : 0 < ((roundsL l).getD i []).length := by rw [hy]; simp
 have hle : offL l s i + ((roundsL l).getD i []).length ≤ l.length := by
  have := congrArg List.length heq
  rw [List.length_take, List.length_drop] at this
  omega
 refine ⟨hpos, hle, heq, by unfold offL; rw [← e2]; omega, ?_⟩
 have hc := hp.clk
 have hlt : offL l s i < l.length := by omega
 have hhead : evAt l (offL l s i) = y := by
  have : ((l.drop (offL l s i)).take ((roundsL l).getD i []).length)[0]? = some y := by rw [heq, hy]; rfl
  rw [List.getElem?_take, if_pos hpos, List.getElem?_drop, Nat.add_zero] at this
  simp [evAt, List.getD, this]
 rw [hhead, hc]
 have : (roundsL l)[i]? = some (y :: t) := by rw [← hy]; simp [List.getD, hi]
 simp [nth, List.getD, this]
theorem off_end {l : List Ev} {s : Nat} (hs : s ≤ l.length) (h1 : ∀ i, i < s → (evAt l i).k ≠ 1) (h2 : s < l.length → (evAt l s).k = 1) : offL l s (roundsL l).length = l.length := by
 have hf := (rndP l).flat
 rw [dropWhile_at hs h1 h2] at hf
 unfold offL
 rw [List.take_length, hf, List.length_drop]; omega
theorem clk_len (l : List Ev) : (clocksL l).length = (roundsL l).length := by rw [(rndP l).clk, List.length_map]
theorem cnt_succ (l : List Ev) (k : Nat) (h : k < l.length) : (clocksL (l.take (k + 1))).length = (clocksL (l.take k)).length + (if (evAt l k).k = 1 then 1 else 0) := by
 rw [clocks_succ l k h, List.length_append]
 by_cases e : (evAt l k).k = 1 <;> simp [e]
end Go.Proofs.YtdmdohjdmnmabaaGreat
