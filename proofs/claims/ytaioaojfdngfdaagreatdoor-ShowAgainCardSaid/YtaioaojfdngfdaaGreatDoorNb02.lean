/- Parts of a chain of lemmas: ReadP, NumP, WordP, ParP, LineP, Str, Life, Law. Conditions: those of each theorem. -/
import Derived.Test.YtaioaojfdngfdaaGreatDoorNb01
import Derived.Lib.ParseIntB
import Derived.Laws.CopyOwn
import Derived.Lib.LazyBuf
import Derived.Lib.SlBytesRow
import Derived.Deep.RegionLaw
import Derived.ProofKit
import Derived.OpenShut
import Derived.SizedLaws
set_option linter.unusedVariables false
set_option linter.unusedSimpArgs false
namespace Go.Proofs.YtaioaojfdngfdaaGreatDoor
def atB (L : List UInt8) (i : Nat) : UInt8 := L.getD i 0
/-- what a digit to the base 16 counts; below 0: it is none -/
def valH (b : UInt8) : Int := if 48 ≤ b.toNat ∧ b.toNat ≤ 57 then (b.toNat : Int) - 48 else if 97 ≤ b.toNat ∧ b.toNat ≤ 102 then (b.toNat : Int) - 87 else -1
/-- the byte behind a backslash -/
def escB (e : UInt8) : Option UInt8 := if e = 34 then some 34 else if e = 92 then some 92 else if e = 110 then some 10 else if e = 114 then some 13 else if e = 116 then some 9 else none
/-- the byte of the sign at a place, and how many bytes that takes; of none, how many of its bytes some sign begins with, and false -/
def oneAt (L : List UInt8) (i : Nat) : UInt8 × Nat × Bool :=
 if L.length ≤ i then (0, 0, false)
 else if (atB L i).toNat < 32 ∨ 126 < (atB L i).toNat ∨ atB L i = 34 then (0, 0, false)
 else if atB L i ≠ 92 then (atB L i, 1, true)
 else if L.length ≤ i + 1 then (0, 1, false)
 else match escB (atB L (i + 1)) with
  | some b => (b, 2, true)
  | none => if atB L (i + 1) ≠ 120 then (0, 1, false)
   else if L.length ≤ i + 2 then (0, 2, false)
   else if valH (atB L (i + 2)) < 0 then (0, 2, false)
   else if L.length ≤ i + 3 then (0, 3, false)
   else if valH (atB L (i + 3)) < 0 then (0, 3, false)
   else (UInt8.ofNat (16 * (valH (atB L (i + 2))).toNat + (valH (atB L (i + 3))).toNat), 4, true)
def readGo : Nat → List UInt8 → Nat → List UInt8 → List UInt8 × Nat × Nat
 | 0, L, i, out => ([], i, 2)
 | f + 1, L, i, out => if i < L.length ∧ atB L i = 34 then (out, i + 1, 0)
  else if (oneAt L i).2.2 = true then readGo f L (i + (oneAt L i).2.1) (out ++ [(oneAt L i).1])
  else ([], i + (oneAt L i).2.1, if i + (oneAt L i).2.1 = L.length then 3 else 2)
/-- the text in quotes with which a text begins; where it ends; what is wrong -/
def qReadM (L : List UInt8) : List UInt8 × Nat × Nat := if 0 < L.length ∧ atB L 0 = 34 then readGo (L.length + 1) L 1 [] else ([], 0, if L.length = 0 then 3 else 2)
theorem atB_drop (L : List UInt8) (i j : Nat) : atB (L.drop i) j = atB L (i + j) := by
 unfold atB
 simp [List.getD, List.getElem?_drop]
theorem oneAt_drop (L : List UInt8) (i : Nat) (h : i ≤ L.length) : oneAt (L.drop i) 0 = oneAt L i := by
 unfold oneAt
 simp only [atB_drop, List.length_drop, Nat.zero_add, Nat.add_zero]
 have e0 : (L.length - i ≤ 0) ↔ (L.length ≤ i) := by omega
 have e1 : (L.length - i ≤ 1) ↔ (L.length ≤ i + 1) := by omega
 have e2 : (L.length - i ≤ 2) ↔ (L.length ≤ i + 2) := by omega
 have e3 : (L.length - i ≤ 3) ↔ (L.length ≤ i + 3) := by omega
 simp only [e0, e1, e2, e3]
theorem oneAt_le (L : List UInt8) (i : Nat) (h : i ≤ L.length) : i + (oneAt L i).2.1 ≤ L.length := by
 unfold oneAt
 split
 ·simp; omega
 split
 ·simp; omega
 split
 ·simp; omega
 split
 ·simp; omega
 split
 ·simp; omega
 split
 ·simp; omega
 split
 ·simp; omega
 split
 ·simp; omega
 split
 ·simp; omega
 split
 ·simp; omega
 ·simp; omega
theorem oneAt_pos (L : List UInt8) (i : Nat) (h : (oneAt L i).2.2 = true) : 1 ≤ (oneAt L i).2.1 ∧ i < L.length := by
 unfold oneAt at h ⊢
 split at h
 ·simp at h
 rename_i h0
 rw [if_neg h0]
 split at h
 ·simp at h
 rename_i h1
 rw [if_neg h1]
 split at h
 ·rename_i h2; rw [if_pos h2]; simp; omega
 rename_i h2
 rw [if_neg h2]
 split at h
 ·simp at h
 rename_i h3
 rw [if_neg h3]
 split at h
 ·simp; omega
 split at h
 ·simp at h
 rename_i h4
 rw [if_neg h4]
 split at h
 ·simp at h
 rename_i h5
 rw [if_neg h5]
 split at h
 ·simp at h
 rename_i h6
 rw [if_neg h6]
 split at h
 ·simp at h
 rename_i h7
 rw [if_neg h7]
 split at h
 ·simp at h
 rename_i h8
 rw [if_neg h8]
 simp; omega
/-- the five signs of two bytes -/
theorem sign_two (b e : UInt8) : signT b = [92, e] ↔ escB e = some b := by
 unfold signT escB
 constructor
 ·intro h
  split at h
  ·rename_i h1
   simp at h
   subst h
   rcases h1 with h1 | h1 <;> subst h1 <;> rfl
  split at h
  ·rename_i h1 h2
   simp at h; subst h; subst h2; rfl
  split at h
  ·rename_i h1 h2 h3
   simp at h; subst h; subst h3; rfl
  split at h
  ·rename_i h1 h2 h3 h4
   simp at h; subst h; subst h4; rfl
  split at h
  ·simp at h
  ·simp at h
 ·intro h
  split at h
  ·rename_i h1; subst h1; simp at h; subst h; rfl
  split at h
  ·rename_i h1 h2; subst h2; simp at h; subst h; rfl
  split at h
  ·rename_i h1 h2 h3; subst h3; simp at h; subst h; rfl
  split at h
  ·rename_i h1 h2 h3 h4; subst h4; simp at h; subst h; rfl
  split at h
  ·rename_i h1 h2 h3 h4 h5; subst h5; simp at h; subst h; rfl
  ·simp at h
theorem readGo_len (f : Nat) : ∀ (L : List UInt8) (i : Nat) (out : List UInt8), i ≤ L.length → out.length ≤ i → (readGo f L i out).1.length ≤ L.length ∧ (readGo f L i out).2.1 ≤ L.length := by
 induction f with
 | zero => intro L i out h1 h2; unfold readGo; simp; omega
 | succ f ih =>
  intro L i out h1 h2
  unfold readGo
  split
  ·simp; omega
  split
  ·rename_i h3 h4
   have h5 := oneAt_pos L i h4
   have h6 := oneAt_le L i h1
   exact ih L _ _ h6 (by simp; omega)
  ·have h6 := oneAt_le L i h1
   simp; omega
theorem qReadM_len (L : List UInt8) : (qReadM L).1.length ≤ L.length ∧ (qReadM L).2.1 ≤ L.length := by
 unfold qReadM
 split
 ·rename_i h; exact readGo_len _ _ _ _ (by omega) (by simp)
 ·simp
end Go.Proofs.YtaioaojfdngfdaaGreatDoor
namespace Go.Proofs.YtaioaojfdngfdaaGreatDoor
def digB' (b : UInt8) : Bool := decide (48 ≤ b.toNat) && decide (b.toNat ≤ 57)
def valFrom : Nat → List UInt8 → Nat
 | n, [] => n
 | n, c :: r => valFrom (10 * n + (c.toNat - 48)) r
def neverL : List UInt8 := [110, 101, 118, 101, 114]
/-- the ticks of a text; what is wrong -/
def tickP (L : List UInt8) : Int × Nat :=
 if L = neverL then (9223372036854775807, 0)
 else if L.length = 0 ∨ (1 < L.length ∧ atB L 0 = 48) then (0, 2)
 else if L.all digB' = false then (0, 2)
 else if 9223372036854775807 ≤ valFrom 0 L then (0, 12)
 else ((valFrom 0 L : Nat), 0)
/-- a number that may be as great as told -/
def numberP (L : List UInt8) (most : Int) : Int × Nat :=
 if (tickP L).2 = 0 ∧ most ≠ 9223372036854775807 ∧ most < (tickP L).1 then (0, 12) else tickP L
theorem valFrom_ge : ∀ (r : List UInt8) (n : Nat), n ≤ valFrom n r
 | [], n => Nat.le_refl _
 | c :: r, n => by
  have := valFrom_ge r (10 * n + (c.toNat - 48))
  unfold valFrom
  omega
theorem valFrom_snoc : ∀ (X : List UInt8) (n : Nat) (c : UInt8), valFrom n (X ++ [c]) = 10 * valFrom n X + (c.toNat - 48)
 | [], n, c => rfl
 | a :: r, n, c => by
  show valFrom (10 * n + (a.toNat - 48)) (r ++ [c]) = _
  rw [valFrom_snoc r]
  rfl
theorem valFrom_take (L : List UInt8) (k : Nat) (h : k < L.length) : valFrom 0 (L.take (k + 1)) = 10 * valFrom 0 (L.take k) + ((atB L k).toNat - 48) := by
 have e : L[k] = atB L k := by unfold atB; simp [List.getD, h]
 rw [List.take_succ_eq_append_getElem h, valFrom_snoc, e]
theorem uintM_val : ∀ (r : List UInt8) (acc : Nat), r.all digB' = true → acc ≤ 18446744073709551615 → Lib.parseUintM 18446744073709551615 acc r = if valFrom acc r ≤ 18446744073709551615 then .ok (valFrom acc r) else .range
 | [], acc, _, h => by unfold Lib.parseUintM valFrom; rw [if_pos h]
 | c :: r, acc, h, ha => by
  rw [List.all_cons, Bool.and_eq_true] at h
  obtain ⟨h1, h2⟩ := h
  unfold digB' at h1
  simp only [Bool.and_eq_true, decide_eq_true_eq] at h1
  have hge := valFrom_ge r (10 * acc + (c.toNat - 48))
  unfold Lib.parseUintM valFrom
  rw [if_pos h1]
  split
  ·rw [if_neg (by omega)]
  split
  ·rw [if_neg (by omega)]
  ·rw [uintM_val r _ h2 (by omega), show acc * 10 + (c.toNat - 48) = 10 * acc + (c.toNat - 48) by omega]
theorem intB_val (L : List UInt8) (h : L.all digB' = true) (h0 : L ≠ []) : Lib.parseIntB 64 L = if valFrom 0 L < 9223372036854775808 then .ok ((valFrom 0 L : Nat) : Int) else .range := by
 cases L with
 | nil => exact absurd rfl h0
 | cons c r =>
  have hc := h
  rw [List.all_cons, Bool.and_eq_true] at hc
  have h1 := hc.1
  unfold digB' at h1
  simp only [Bool.and_eq_true, decide_eq_true_eq] at h1
  have e1 : (c.toNat = 43) = False := by simp; omega
  have e2 : (c.toNat = 45) = False := by simp; omega
  unfold Lib.parseIntB
  simp only [e1, e2, or_self, if_false, false_and, not_false_eq_true, true_and]
  unfold Lib.parseUintB
  rw [if_neg h0, show (2 : Nat) ^ 64 - 1 = 18446744073709551615 from rfl, uintM_val _ 0 h (by omega)]
  by_cases hv : valFrom 0 (c :: r) ≤ 18446744073709551615
  ·rw [if_pos hv]
   simp only [show (2 : Nat) ^ (64 - 1) = 9223372036854775808 from rfl]
   by_cases hw : valFrom 0 (c :: r) < 9223372036854775808
   ·rw [if_pos hw, if_neg (by omega)]
   ·rw [if_neg hw, if_pos (by omega)]
  ·rw [if_neg hv, if_neg (by omega)]
end Go.Proofs.YtaioaojfdngfdaaGreatDoor
namespace Go.Proofs.YtaioaojfdngfdaaGreatDoor
def plainB (b : UInt8) : Bool := decide (33 ≤ b.toNat) && (decide (b.toNat ≤ 126) && (decide (b ≠ 34) && decide (b ≠ 92)))
/-- with how many plain bytes a text begins -/
def bareN (L : List UInt8) : Nat := (L.takeWhile plainB).length
structure WordM where
 text : List UInt8
 quoted : Bool
 at_ : Nat
/-- the word at a place, how long it is, what is wrong -/
def wordAt (L : List UInt8) (i : Nat) : WordM × Nat × Nat :=
 if i < L.length ∧ atB L i = 34 then (⟨(qReadM (L.drop i)).1, true, i⟩, (qReadM (L.drop i)).2.1, (qReadM (L.drop i)).2.2)
 else if bareN (L.drop i) = 0 then (⟨[], false, i⟩, 0, if i = L.length then 3 else 2)
 else (⟨(L.drop i).take (bareN (L.drop i)), false, i⟩, bareN (L.drop i), 0)
def wordsGo : Nat → List UInt8 → Nat → List WordM → List WordM × Nat × Nat
 | 0, L, i, out => ([], i, 2)
 | f + 1, L, i, out => if (wordAt L i).2.2 ≠ 0 then ([], i + (wordAt L i).2.1, (wordAt L i).2.2)
  else if i + (wordAt L i).2.1 = L.length then (out ++ [(wordAt L i).1], 0, 0)
  else if atB L (i + (wordAt L i).2.1) ≠ 32 then ([], i + (wordAt L i).2.1, 2)
  else wordsGo f L (i + (wordAt L i).2.1 + 1) (out ++ [(wordAt L i).1])
/-- the words of a line; where, and what is wrong -/
def wordsM (L : List UInt8) : List WordM × Nat × Nat := if 1200 < L.length then ([], 1200, 4) else if L.length = 0 then ([], 0, 0) else wordsGo (L.length + 1) L 0 []
theorem bareN_le (L : List UInt8) : bareN L ≤ L.length := by
 unfold bareN
 exact (List.takeWhile_prefix plainB).length_le
theorem bareN_at : ∀ (L : List UInt8) (k : Nat), k ≤ L.length → (∀ j, j < k → plainB (atB L j) = true) → (k < L.length → plainB (atB L k) = false) → bareN L = k
 | [], k, hk, _, _ => by simp at hk; subst hk; rfl
 | b :: r, 0, _, _, h => by
  have h1 : plainB b = false := h (by simp)
  unfold bareN
  rw [List.takeWhile_cons, if_neg (by rw [h1]; simp)]
  rfl
 | b :: r, k + 1, hk, h, h2 => by
  have h1 : plainB b = true := h 0 (by omega)
  have h3 := bareN_at r k (by simpa using hk) (fun j hj => h (j + 1) (by omega)) (fun hj => h2 (by simpa using hj))
  unfold bareN at h3 ⊢
  rw [List.takeWhile_cons, if_pos h1, List.length_cons, h3]
theorem wordAt_le (L : List UInt8) (i : Nat) (h : i ≤ L.length) : i + (wordAt L i).2.1 ≤ L.length := by
 unfold wordAt
 split
 ·have := (qReadM_len (L.drop i)).2
  rw [List.length_drop] at this
  show i + (qReadM (L.drop i)).2.1 ≤ _
  omega
 split
 ·simpa using h
 ·have := bareN_le (L.drop i)
  rw [List.length_drop] at this
  show i + bareN (L.drop i) ≤ _
  omega
theorem wordAt_len (L : List UInt8) (i : Nat) : (wordAt L i).1.text.length ≤ L.length := by
 unfold wordAt
 split
 ·have := (qReadM_len (L.drop i)).1
  rw [List.length_drop] at this
  show (qReadM (L.drop i)).1.length ≤ _
  omega
 split
 ·simp
 ·show ((L.drop i).take _).length ≤ _
  rw [List.length_take, List.length_drop]; omega
end Go.Proofs.YtaioaojfdngfdaaGreatDoor
namespace Go.Proofs.YtaioaojfdngfdaaGreatDoor
/-- a label that is used: where, of which op, and how -/
structure UseM where
 name : List UInt8
 line : Int
 col : Int
 op : Int
 how : Int
/-- the op of a label, the last of its name -/
def lbF (k : List UInt8) : List (List UInt8 × Int) → Option Int
 | [] => none
 | (n, v) :: r => if n = k then some v else lbF k r
/-- the next word, and what is wrong -/
structure St where
 nx : Nat
 sl : Int
 sc : Int
 bad : Int
def w0 : WordM := ⟨[], false, 0⟩
def wsAt (ws : List WordM) (k : Nat) : WordM := ws.getD k w0
theorem wsAt_some {l : List WordM} {k : Nat} (hk : k < l.length) : l[k]? = some (wsAt l k) := by simp [wsAt, List.getD, hk]
theorem wsAt_mem {l : List WordM} {k : Nat} (hk : k < l.length) : wsAt l k ∈ l := List.mem_of_getElem? (wsAt_some hk)
def failS (line : Int) (s : St) (col e : Int) : St := if s.bad = 0 then ⟨s.nx, line, col + 1, e⟩ else s
def wordS (line width : Int) (ws : List WordM) (s : St) (q : Bool) : (WordM × Bool) × St :=
 if s.bad ≠ 0 then ((w0, false), s)
 else if ws.length ≤ s.nx then ((w0, false), ⟨s.nx, line, width + 1, 3⟩)
 else if (wsAt ws s.nx).quoted ≠ q then ((wsAt ws s.nx, false), ⟨s.nx + 1, line, (wsAt ws s.nx).at_ + 1, 2⟩)
 else ((wsAt ws s.nx, true), ⟨s.nx + 1, s.sl, s.sc, s.bad⟩)
def nameS (line width : Int) (ws : List WordM) (s : St) : WordM × St :=
 ((wordS line width ws s false).1.1, if (wordS line width ws s false).1.2 = true ∧ nameL (wordS line width ws s false).1.1.text = false then failS line (wordS line width ws s false).2 (wordS line width ws s false).1.1.at_ 10 else (wordS line width ws s false).2)
def numE (t : List UInt8) (least most : Int) : Int := if (numberP t most).2 = 0 ∧ (numberP t most).1 < least then 12 else (numberP t most).2
def numS (line : Int) (s : St) (x : WordM) (least most : Int) : Int × St :=
 ((numberP x.text most).1, if numE x.text least most ≠ 0 then failS line s x.at_ (numE x.text least most) else s)
def ticksS (line width : Int) (ws : List WordM) (s : St) (least : Int) (ever : Bool) : Int × St :=
 if (wordS line width ws s false).1.2 = false then (0, (wordS line width ws s false).2)
 else if ever = true ∧ (wordS line width ws s false).1.1.text = neverL then (9223372036854775807, (wordS line width ws s false).2)
 else numS line (wordS line width ws s false).2 (wordS line width ws s false).1.1 least 1000000000000
def textE (ok : Bool) (t : List UInt8) : Int := if ok = false then 0 else if t.length = 0 then 9 else if 256 < t.length then 4 else 0
def textS (line width : Int) (ws : List WordM) (s : St) : List UInt8 × St :=
 ((wordS line width ws s true).1.1.text, if textE (wordS line width ws s true).1.2 (wordS line width ws s true).1.1.text ≠ 0 then failS line (wordS line width ws s true).2 (wordS line width ws s true).1.1.at_ (textE (wordS line width ws s true).1.2 (wordS line width ws s true).1.1.text) else (wordS line width ws s true).2)
def patternS (line width : Int) (ws : List WordM) (s : St) : List UInt8 × St :=
 if (wordS line width ws s true).1.2 = false then ([], (wordS line width ws s true).2)
 else if 64 < (wordS line width ws s true).1.1.text.length then ([], failS line (wordS line width ws s true).2 (wordS line width ws s true).1.1.at_ 4)
 else ((wordS line width ws s true).1.1.text, if (checkS (wordS line width ws s true).1.1.text).2 ≠ 0 then failS line (wordS line width ws s true).2 (wordS line width ws s true).1.1.at_ (checkS (wordS line width ws s true).1.1.text).2 else (wordS line width ws s true).2)
end Go.Proofs.YtaioaojfdngfdaaGreatDoor
namespace Go.Proofs.YtaioaojfdngfdaaGreatDoor
def linesGo : List UInt8 → List UInt8 → List (List UInt8)
 | [], cur => [cur]
 | c :: r, cur => if c = 10 then cur :: linesGo r [] else linesGo r (cur ++ [c])
/-- the lines of a text -/
def linesM (L : List UInt8) : List (List UInt8) := linesGo L []
/-- whether a line says nothing -/
def idleB (L : List UInt8) : Bool := decide (L.length = 0) || decide (atB L 0 = 35)
theorem linesGo_at (L : List UInt8) (i : Nat) (cur : List UInt8) (h : i < L.length) : linesGo (L.drop i) cur = if atB L i = 10 then cur :: linesGo (L.drop (i + 1)) [] else linesGo (L.drop (i + 1)) (cur ++ [atB L i]) := by
 rw [List.drop_eq_getElem_cons h]
 have e : L[i] = atB L i := by unfold atB; simp [List.getD, h]
 rw [e]
 rfl
theorem cut_succ (L : List UInt8) (a i : Nat) (h : a ≤ i) (h2 : i < L.length) : (L.drop a).take (i + 1 - a) = (L.drop a).take (i - a) ++ [atB L i] := by
 have e : i + 1 - a = (i - a) + 1 := by omega
 have hl : i - a < (L.drop a).length := by rw [List.length_drop]; omega
 rw [e, List.take_succ_eq_append_getElem hl]
 congr 2
 unfold atB
 rw [List.getElem_drop]
 simp [List.getD, h2, show a + (i - a) = i by omega]
theorem linesGo_len (r : List UInt8) : ∀ cur, (linesGo r cur).length ≤ r.length + 1 := by
 induction r with
 | nil => intro cur; simp [linesGo]
 | cons c r ih =>
  intro cur
  unfold linesGo
  split
  ·have := ih []; simp; omega
  ·have := ih (cur ++ [c]); simp; omega
end Go.Proofs.YtaioaojfdngfdaaGreatDoor
namespace Go.Proofs.YtaioaojfdngfdaaGreatDoor
open Go.RowKit
theorem ba_ext {a b : ByteArray} (h : a.data.toList = b.data.toList) : a = b := by
 apply ByteArray.ext
 exact Array.toList_inj.1 h
theorem ba_size (a : ByteArray) : a.data.toList.length = a.size := by rw [Array.length_toList]; rfl
theorem ba_app (a b : ByteArray) : (a ++ b).data.toList = a.data.toList ++ b.data.toList := by rw [ByteArray.data_append, Array.toList_append]
theorem ba_sub (s : ByteArray) (a b : Nat) : (s.extract a b).data.toList = (s.data.toList.drop a).take (b - a) := Lib.extract_data s a b
theorem ba_sub_size (s : ByteArray) (a b : Nat) (h : a ≤ b) (hb : b ≤ s.size) : (s.extract a b).size = b - a := by
 rw [← ba_size, ba_sub, List.length_take, List.length_drop, ba_size]; omega
/-- the cells of bytes -/
def bys (X : List UInt8) : List Value := X.map fun x => Value.int .u8 (x.toNat : Int)
theorem bys_len (X : List UInt8) : (bys X).length = X.length := by simp [bys]
theorem bys_at (X : List UInt8) (i : Nat) (h : i < X.length) : (bys X)[i]? = some (.int .u8 (X[i].toNat : Int)) := by simp [bys, h]
theorem bys_one (X : List UInt8) : ∀ u ∈ bys X, u.oneCell' = true := by
 intro u hu
 simp [bys] at hu
 obtain ⟨x, _, rfl⟩ := hu
 rfl
theorem splice_get {α : Type} (L : List α) (off : Nat) (cs : List α) (h : off + cs.length ≤ L.length) (j : Nat) : (splice L off cs)[j]? = if off ≤ j ∧ j < off + cs.length then cs[j - off]? else L[j]? := by
 unfold splice
 have hl : (L.take off).length = off := by rw [List.length_take]; omega
 by_cases h1 : j < off
 ·rw [if_neg (by omega), List.getElem?_append_left (by omega), List.getElem?_take, if_pos h1]
 ·rw [List.getElem?_append_right (by omega), hl]
  by_cases h2 : j < off + cs.length
  ·rw [if_pos (by omega), List.getElem?_append_left (by omega)]
  ·rw [if_neg (by omega), List.getElem?_append_right (by omega), List.getElem?_drop]
   congr 1; omega
theorem splice_bys (X : List UInt8) (off : Nat) (cs : List UInt8) : splice (bys X) off (bys cs) = bys (splice X off cs) := by
 unfold splice bys
 simp
theorem splice_tail {α : Type} (L T : List α) (off : Nat) (cs : List α) (h : off + cs.length ≤ L.length) : splice (L ++ T) off cs = splice L off cs ++ T := by
 unfold splice
 rw [List.take_append_of_le_length (by omega), List.drop_append_of_le_length h]
 simp
section
variable {P : Program}
/-- copy out of a text: as many bytes as there is room for go over -/
theorem run_copy_str (w : World) (dT sT ty elem : TypeId) (g o dLen dCap : Nat) (s : ByteArray) (cur : List Value) (t : TypeId)
 (hu : P.underlying dT = some (.slice elem)) (hs : (P.info? elem).map (·.size) = some 1)
 (hg : w.heap[g]? = some (.cells cur.toArray t (0, 0))) (hfit : o + Nat.min s.size dLen ≤ cur.length) :
 (Builtin.copy_ #[dT, sT] ty #[.slice (some ⟨g, o, none⟩) dLen dCap, .string s]).run P w =
  .ok (goInt (Nat.min s.size dLen)) (w.setRow g (splice cur o (bys (s.data.toList.take (Nat.min s.size dLen)))).toArray) := by
 have hl : (bys (s.data.toList.take (Nat.min s.size dLen))).length = Nat.min s.size dLen := by
  rw [bys_len, List.length_take, ba_size]; exact Nat.min_eq_left (Nat.min_le_left _ _)
 have hst := run_storeCells_at P g o t (bys (s.data.toList.take (Nat.min s.size dLen))) 0 cur.toArray w hg (by rw [hl]; simpa using hfit) (bys_one _)
 cases hq : P.info? elem with
 | none => simp [hq] at hs
 | some i =>
  have hi : i.size = 1 := by simpa [hq] using hs
  simp only [Nat.add_zero] at hst
  have e : (List.map (fun x : UInt8 => Value.int .u8 (x.toNat : Int)) s.data.toList).take (Nat.min s.size dLen) = bys (s.data.toList.take (Nat.min s.size dLen)) := by unfold bys; rw [List.map_take]
  simp [Builtin.copy_, run_underlying hu, Builtin.lenOf, Builtin.firstCells, sizeOf, typeInfo, hq]
  rw [e, hst]
  simp [splice, hl]
theorem setRow_only (w : World) (g : Nat) (cs : Array Value) : Only (· = g) w (w.setRow g cs) :=
 ⟨rfl, rfl, by simp [World.setRow], fun k hk hn => setRow_other w g k cs hn⟩
theorem step_copy_str {ops : Array Oper} {o : Oper} {a : Act} {w : World} {K : Act → World → Prop} {Q : Exit → Act → World → Prop} {E : Prop}
 (hg : o.guard = none) (d x : Operand) (dT sT : TypeId) (hop : o.op = Op.call { callee := Callee.builtin Builtin.copy, args := #[d, x], argTypes := #[dT, sT] })
 (elem : TypeId) (hu : P.underlying dT = some (.slice elem)) (hs : (P.info? elem).map (·.size) = some 1)
 (g off dLen dCap : Nat) (hd : a.eval d = .slice (some ⟨g, off, none⟩) dLen dCap) (s : ByteArray) (hx : a.eval x = .string s) (cur : List UInt8) (t : TypeId)
 (Y : List Value) (hB : Blk w g t (bys cur ++ Y).toArray) (k : Nat) (hk : Nat.min s.size dLen = k) (hfit : off + k ≤ cur.length) (X1 : List UInt8) (hX : splice cur off (s.data.toList.take k) = X1)
 (h : ∀ w', Blk w' g t (bys X1 ++ Y).toArray → Only (· = g) w w' → K (a.put o.dst (.int .i64 k)) w') :
 if Region.wanted o (yielded ops a.tmps) = true then Oper.wp P o a w K Q else E := by
 have hw : Region.wanted o (yielded ops a.tmps) = true := by simp [Region.wanted, hg]
 rw [if_pos hw]
 have hrun := run_copy_str (P := P) w dT sT o.type elem g off dLen dCap s (bys cur ++ Y) t hu hs hB (by rw [hk, List.length_append, bys_len]; omega)
 rw [hk, splice_tail _ _ _ _ (by rw [bys_len, bys_len, List.length_take, ba_size]; omega), splice_bys, hX] at hrun
 unfold Oper.wp
 simp [execOp, hop, resolve, invoke, builtin, hd, hx, hrun, Result.andThen]
 exact h _ (setRow_heap w g _ _ t _ hB) (setRow_only w g _)
theorem wpList_convert_run (w : World) {ops : Array Oper} {rest : List Oper} {o : Oper} {a : Act} {Q : Exit → Act → World → Prop} (hgd : o.guard = none) (src dst : TypeId) (x : Operand)
 (ho : o.op = .convert src dst x) (v : Value) (hx : a.eval x = v) {v' : Value} {w' : World} (hr : (convert src dst v).run P w = .ok v' w') (h : wpList P ops Q rest (a.put o.dst v') w') : wpList P ops Q (o :: rest) a w :=
 wpList_plain hgd fun K hK => by
  unfold Oper.wp execOp
  simp only [ho, Sem.run_bind, Sem.run_pure, Result.andThen_ok, hx, hr]
  exact hK _ _ h
end
structure Stp where
 tick : Int
 at_ : Int
 what : Int
 arm : Int
 n : Int
 status : Int
structure Ev where
 k : Int
 id : Int
 n : Int
 tick : Int
 s : ByteArray
 err : Int
 st : Stp
structure Inp where
 k : Int
 s : ByteArray
 n : Int
 tick : Int
def encStp (x : Stp) : List Value := [.int .i64 x.tick, .int .i64 x.at_, .int .i64 x.what, .int .i64 x.arm, .int .i64 x.n, .int .i64 x.status]
def encEv (x : Ev) : List Value := [.int .i64 x.k, .int .i64 x.id, .int .i64 x.n, .int .i64 x.tick, .string x.s, .int .i64 x.err, .int .i64 x.st.tick, .int .i64 x.st.at_, .int .i64 x.st.what, .int .i64 x.st.arm, .int .i64 x.st.n, .int .i64 x.st.status]
def encInp (x : Inp) : List Value := [.int .i64 x.k, .string x.s, .int .i64 x.n, .int .i64 x.tick]
theorem encStp_len (x : Stp) : (encStp x).length = 6 := rfl
theorem encEv_len (x : Ev) : (encEv x).length = 12 := rfl
theorem encInp_len (x : Inp) : (encInp x).length = 4 := rfl
structure LifeM where
 script : Int
 start : Int
 ins : List Inp
 steps : List Stp
 read : ByteArray
 taken : ByteArray
 eof : Bool
 status : Int
def life0 (script start : Int) : LifeM := ⟨script, start, [], [], ⟨#[]⟩, ⟨#[]⟩, false, 0⟩
def addL (id : Int) (f : LifeM) (x : Ev) : LifeM :=
 if x.k = 7 ∧ f.status = 0 then { f with ins := f.ins ++ [⟨4, ⟨#[]⟩, 0, x.tick⟩] }
 else if x.id ≠ id then f
 else if x.k = 4 then { f with ins := f.ins ++ [⟨1, x.s, 0, 0⟩], read := f.read ++ x.s }
 else if x.k = 5 then { f with ins := f.ins ++ [⟨2, ⟨#[]⟩, 0, 0⟩], eof := true }
 else if x.k = 6 then { f with ins := f.ins ++ [⟨3, ⟨#[]⟩, x.n, 0⟩], taken := f.taken ++ x.s }
 else if x.k = 8 then { f with ins := f.ins ++ [⟨5, ⟨#[]⟩, 0, x.st.tick⟩], steps := f.steps ++ [x.st], status := x.st.status }
 else f
/-- the tick of the last round -/
def clockOf (c : Int) (l : List Ev) : Int := l.foldl (fun c x => if x.k = 1 then x.tick else c) c
def opens (id : Int) (x : Ev) : Bool := decide (x.k = 2 ∧ x.id = id)
/-- the life of one -/
def lifeGo (id : Int) : Int → List Ev → Option LifeM
 | _, [] => none
 | c, x :: r => if opens id x then some (r.foldl (addL id) (life0 x.n c)) else lifeGo id (if x.k = 1 then x.tick else c) r
def ownOf (id : Int) (x : Ev) : Bool := decide (x.id = id ∨ x.k = 1 ∨ x.k = 7)
theorem addL_other (id : Int) (f : LifeM) (x : Ev) (h : ownOf id x = false) : addL id f x = f := by
 unfold ownOf at h
 rw [decide_eq_false_iff_not] at h
 unfold addL
 rw [if_neg (by omega), if_pos (by omega)]
theorem foldl_own (id : Int) (l : List Ev) : ∀ f : LifeM, (l.filter (ownOf id)).foldl (addL id) f = l.foldl (addL id) f := by
 induction l with
 | nil => intro f; rfl
 | cons x r ih =>
  intro f
  by_cases h : ownOf id x = true
  ·rw [List.filter_cons_of_pos h]
   exact ih _
  ·rw [List.filter_cons_of_neg h]
   rw [List.foldl_cons, addL_other id f x (by simpa using h)]
   exact ih _
/-- what is told of others changes no life -/
theorem lifeGo_own (id : Int) (l : List Ev) : ∀ c : Int, lifeGo id c (l.filter (ownOf id)) = lifeGo id c l := by
 induction l with
 | nil => intro c; rfl
 | cons x r ih =>
  intro c
  by_cases h : ownOf id x = true
  ·rw [List.filter_cons_of_pos h]
   unfold lifeGo
   by_cases ho : opens id x = true
   ·rw [if_pos ho, if_pos ho, foldl_own]
   ·rw [if_neg ho, if_neg ho]
    exact ih _
  ·rw [List.filter_cons_of_neg h]
   have h' : ownOf id x = false := by simpa using h
   unfold ownOf at h'
   rw [decide_eq_false_iff_not] at h'
   have ho : ¬ opens id x = true := by
    unfold opens
    rw [decide_eq_true_iff]
    omega
   conv => rhs; unfold lifeGo
   rw [if_neg ho, if_neg (by omega)]
   exact ih _
/-- by the place where it was opened -/
theorem lifeGo_none (id : Int) (l : List Ev) (h : ∀ x ∈ l, opens id x = false) : ∀ c, lifeGo id c l = none := by
 induction l with
 | nil => intro c; rfl
 | cons x r ih =>
  intro c
  unfold lifeGo
  rw [if_neg (by rw [h x (by simp)]; decide)]
  exact ih (fun y hy => h y (by simp [hy])) _
theorem lifeGo_at (id : Int) (pre : List Ev) (x : Ev) (post : List Ev) (h : ∀ y ∈ pre, opens id y = false) (hx : opens id x = true) : ∀ c, lifeGo id c (pre ++ x :: post) = some (post.foldl (addL id) (life0 x.n (clockOf c pre))) := by
 induction pre with
 | nil =>
  intro c
  show lifeGo id c (x :: post) = _
  unfold lifeGo
  rw [if_pos hx]
  rfl
 | cons y r ih =>
  intro c
  show lifeGo id c (y :: (r ++ x :: post)) = _
  unfold lifeGo
  rw [if_neg (by rw [h y (by simp)]; decide)]
  exact ih (fun z hz => h z (by simp [hz])) _
def cutEv (x : Ev) (s : ByteArray) : Ev := { x with s := s }
end Go.Proofs.YtaioaojfdngfdaaGreatDoor
namespace Go.Proofs.YtaioaojfdngfdaaGreatDoor
open Go.ChangeShapes Go.WideShapes Go.ChangeAt Go.RowKit
theorem Tryz.own : ownKnob Tryz.prog.godebug = none := by kernel_rfl
theorem Tryz.laidOut : laidOutB Tryz.prog = true := by kernel_rfl
section
variable {H : Type} {enc : TypeId × Value → H} {P : Program}
theorem trodAll_stays (hl : laidOutB P = true) {W W' : World} (hb : Only NoBlk W W') {sp : Nat → Bool} : ∀ (ts : List TypeId) (vs : List Value) (ds : List (DataW H)) (ps : List MemPlace),
 (∀ t ∈ ts, P.readableRec t = true ∧ t < P.types.size) → DataW.TrodAll enc P W 0 (fun _ => true) true ts vs ds ps → (∀ x ∈ ps, x.block < W.heap.size) → (∀ x ∈ ps, sp x.block = true) →
 DataW.TrodAll enc P W' 0 sp true ts vs ds ps
 | [], vs, ds, ps, _, h, _, _ => by
  obtain ⟨rfl, rfl, rfl⟩ := trodAll_nil h
  exact trodAll_mk0
 | t :: ts, vs, ds, ps, ht, h, hlt, hsp => by
  obtain ⟨v, vs', d, ds', p, q, rfl, rfl, rfl, h0, h1⟩ := trodAll_cons h
  have hsame : ∀ x ∈ p, W.sameAt W' x := fun x hx => by
   have hbx := hb.block x.block (hlt x (List.mem_append_left _ hx)) (fun hf => hf)
   cases x with
   | cell b o => exact World.cell?_of_block (w := W) hbx
   | map b => exact hbx
  exact trodAll_cons_mk (WideElems.Trod_stays hl (ht t (by simp)).1 (ht t (by simp)).2 h0 hsame (fun x hx => hsp x (List.mem_append_left _ hx)))
   (trodAll_stays hl hb ts vs' ds' q (fun t' h' => ht t' (by simp [h'])) h1 (fun x hx => hlt x (List.mem_append_right _ hx)) (fun x hx => hsp x (List.mem_append_right _ hx)))
/-- the call read its arguments alone, and answered true -/
theorem law_post {f : Func} {s : ChangeSpec} {apart fresh handsOn again : Bool} {W W' : World} {args : Array Value} {ds : List (DataW H)} {before : List MemPlace} {tb : TypeId}
 (hl : laidOutB P = true) (hts0 : (f.params.toList.all fun t => P.readableRec t && decide (t < P.types.size)) = true) (hres : f.resultTypes = #[tb]) (htb : P.underlying tb = some .bool) (hvars : s.vars = [])
 (hW : DataW.Whole enc P f.params.toList s.vars apart W args.toList ds [] before)
 (h1 : (s.fn H (ds ++ [])).results = [.lit (.bool true)]) (h2 : (s.fn H (ds ++ [])).args = ds) (h3 : (s.fn H (ds ++ [])).vars = []) (hb : Only NoBlk W W') :
 s.post enc P f apart fresh handsOn again W args (.bool true) W' := by
 have hts : ∀ t ∈ f.params.toList, P.readableRec t = true ∧ t < P.types.size := fun t ht => by
  have := List.all_eq_true.1 hts0 t ht
  simpa using this
 have hW' := hW
 obtain ⟨p, q, hA, hV, he, hfz, hnd⟩ := hW
 rw [hvars] at hV
 obtain ⟨_, rfl⟩ := trodVars_none hV
 rw [List.append_nil] at he
 subst he
 have hlt : ∀ x ∈ before, x.block < W.heap.size := fun x hx => hW'.lt x hx
 have hold : ∀ x ∈ before, (fun b => decide (b < W.heap.size)) x.block = true := fun x hx => by simpa using hlt x hx
 have hR : ∀ (b : Nat) (sp : Nat → Bool) (hd : Bool), DataW.TrodAll enc P W' b sp hd f.resultTypes.toList ((Value.bool true).resultList f.resultTypes.size) (s.fn H (ds ++ [])).results [] := by
  intro b sp hd
  rw [h1, hres]
  exact trodAll_mk1 (shut_bool htb _)
 have hAr : ∀ sp : Nat → Bool, (∀ x ∈ before, sp x.block = true) → DataW.TrodAll enc P W' 0 sp true f.params.toList args.toList (s.fn H (ds ++ [])).args before := by
  intro sp hsp
  rw [h2]
  exact trodAll_stays hl hb _ _ _ _ hts hA hlt hsp
 have hVr : ∀ sp : Nat → Bool, DataW.TrodVars enc P W' sp s.vars (s.fn H (ds ++ [])).vars [] := by
  intro sp
  rw [h3, hvars]
  rfl
 have hk : W.keptBut W' (· ∈ before) := by
  refine ⟨hb.os, hb.output, fun i hi => ?_⟩
  rw [hb.block i hi (fun h => h)]
  split <;> simp_all
 refine ⟨ds, [], before, [], before, [], hW', hR _ _ _, hAr _ hold, hVr _, World.keptBut_mono (fun p hp => ⟨hp, Or.inr (by simpa using hp)⟩) hk, fun _ => ?_⟩
 refine ⟨?_, _, _, ([] ++ before) ++ [], ⟨[] ++ before, [], trodAll_append (hAr _ (fun _ _ => rfl)) (hR _ _ _), hVr _, rfl, ?_, ?_⟩, ?_⟩
 ·exact ok_one hres rfl (okWide_bool_mk htb _)
 ·intro b off hp
  have hin : MemPlace.cell b off ∈ before := by simpa using hp
  have hbx := hb.block b (hlt _ hin) (fun hf => hf)
  rw [World.frozen?_of_block (w := W) (a := ⟨b, off, none⟩) hbx]
  exact hfz b off (by simpa using hin)
 ·intro ha
  have := hnd ha
  simpa using this
 ·intro p hp _
  simpa using hp
end
end Go.Proofs.YtaioaojfdngfdaaGreatDoor
