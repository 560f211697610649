/- Patterns, plain: what is wrong of a pattern's text, and where. No program. Conditions: those of each theorem. -/
import Derived.Test.YtdmdohjdmnmabaaGreatDoorQh01
namespace Go.Proofs.YtdmdohjdmnmabaaGreatDoor
set_option linter.unusedVariables false

/-- a sign of a set's text: how many bytes it takes, which byte it is, what is wrong -/
def signS : List UInt8 → Nat × UInt8 × Nat
 | [] => (0, 0, 3)
 | c :: r => if c = 37 then (match r with | [] => (1, 0, 3) | b :: _ => (2, b, 0)) else if c = 93 ∨ c = 45 then (0, 0, 2) else (1, c, 0)
/-- a part of a set's text -/
def partS (l : List UInt8) : Nat × Nat :=
 if (signS l).2.2 ≠ 0 then ((signS l).1, (signS l).2.2)
 else match l.drop (signS l).1 with
  | [] => ((signS l).1, 0)
  | c :: r => if c = 45 then (if (signS r).2.2 ≠ 0 then ((signS l).1 + 1 + (signS r).1, (signS r).2.2)
   else if (signS r).2.1.toNat < (signS l).2.1.toNat then ((signS l).1 + (signS r).1, 12) else ((signS l).1 + 1 + (signS r).1, 0)) else ((signS l).1, 0)
/-- the parts of a set's text and what shuts it -/
def loopS : Nat → List UInt8 → Nat × Nat
 | 0, _ => (0, 0)
 | f + 1, l => if (partS l).2 ≠ 0 then partS l
  else match l.drop (partS l).1 with
   | [] => ((partS l).1 + (loopS f []).1, (loopS f []).2)
   | c :: r => if c = 93 then ((partS l).1 + 1, 0) else ((partS l).1 + (loopS f (c :: r)).1, (loopS f (c :: r)).2)
def partsS (l : List UInt8) : Nat × Nat := loopS (l.length + 1) l
/-- a set's text -/
def readS : List UInt8 → Nat × Nat
 | [] => (0, 3)
 | c :: r => if c = 91 then (match r with | [] => (1 + (partsS []).1, (partsS []).2) | b :: q => if b = 94 then (2 + (partsS q).1, (partsS q).2) else (1 + (partsS (b :: q)).1, (partsS (b :: q)).2)) else (0, 2)
/-- an item of a pattern's text: whether it is a run, how many bytes it takes, what is wrong -/
def itemS : List UInt8 → Bool × Nat × Nat
 | [] => (false, 0, 0)
 | c :: r => if c = 42 then (true, 1, 0) else if c = 63 then (false, 1, 0) else if c = 91 then (false, readS (c :: r)) else if c = 93 then (false, 0, 2)
  else if c = 37 then (if r = [] then (false, 1, 3) else (false, 2, 0)) else (false, 1, 0)
/-- a pattern's text behind so many items: which items are runs, where what is wrong stands, what is wrong -/
def parseS : Nat → Nat → List UInt8 → List Bool × Nat × Nat
 | 0, _, _ => ([], 0, 0)
 | f + 1, k, l => if l = [] then ([], 0, 0) else if k = 60 then ([], 0, 4)
  else if (itemS l).2.2 ≠ 0 then ([], (itemS l).2.1, (itemS l).2.2)
  else if (parseS f (k + 1) (l.drop (itemS l).2.1)).2.2 ≠ 0 then ([], (itemS l).2.1 + (parseS f (k + 1) (l.drop (itemS l).2.1)).2.1, (parseS f (k + 1) (l.drop (itemS l).2.1)).2.2)
  else ((itemS l).1 :: (parseS f (k + 1) (l.drop (itemS l).2.1)).1, 0, 0)
def parsesS (k : Nat) (l : List UInt8) : List Bool × Nat × Nat := parseS (l.length + 1) k l
/-- what is wrong of a pattern, and where -/
def checkS (l : List UInt8) : Nat × Nat := if (parsesS 0 l).2.2 ≠ 0 then (parsesS 0 l).2 else if (parsesS 0 l).1.all id = true then (0, 9) else (0, 0)

theorem signS_pos {l : List UInt8} (h : (signS l).2.2 = 0) : 1 ≤ (signS l).1 := by
 cases l with
 | nil => simp [signS] at h
 | cons c r =>
  by_cases h1 : c = 37
  ·subst h1
   cases r with
   | nil => simp [signS] at h
   | cons b q => simp [signS]
  ·by_cases h2 : c = 93 ∨ c = 45
   ·simp [signS, h1, h2] at h
   ·simp [signS, h1, h2]
theorem signS_le (l : List UInt8) : (signS l).1 ≤ l.length := by
 unfold signS
 split
 ·simp
 ·split
  ·split <;> simp
  ·split <;> simp
theorem drop_cons_len {α : Type} {l r : List α} {n : Nat} {c : α} (h : l.drop n = c :: r) : n + 1 + r.length = l.length := by
 have h1 := congrArg List.length h
 simp at h1
 omega
theorem partS_le (l : List UInt8) : (partS l).1 ≤ l.length := by
 have h1 := signS_le l
 unfold partS
 split
 ·exact h1
 ·split
  ·exact h1
  ·rename_i c r h
   have h2 := drop_cons_len h
   have h3 := signS_le r
   split
   ·split
    ·simp; omega
    ·split <;> simp <;> omega
   ·exact h1
theorem partS_pos {l : List UInt8} (h : (partS l).2 = 0) : 1 ≤ (partS l).1 := by
 unfold partS at h ⊢
 split at h
 ·rename_i h1; exact absurd h h1
 ·rename_i h1
  have h2 : (signS l).2.2 = 0 := by simpa using h1
  have h3 := signS_pos h2
  rw [if_neg h1]
  split
  ·exact h3
  ·split
   ·split
    ·simp; omega
    ·split
     ·rename_i hd _ _ _ _ 
      simp_all
     ·simp; omega
   ·exact h3
theorem loopS_fuel : ∀ (f : Nat) (l : List UInt8), l.length + 1 ≤ f → loopS f l = loopS (l.length + 1) l := by
 have key : ∀ (n : Nat) (l : List UInt8), l.length ≤ n → ∀ f g, l.length + 1 ≤ f → l.length + 1 ≤ g → loopS f l = loopS g l := by
  intro n
  induction n with
  | zero =>
   intro l hl f g hf hg
   obtain rfl : l = [] := List.eq_nil_of_length_eq_zero (by omega)
   obtain ⟨f', rfl⟩ : ∃ f', f = f' + 1 := ⟨f - 1, by simp at hf; omega⟩
   obtain ⟨g', rfl⟩ : ∃ g', g = g' + 1 := ⟨g - 1, by simp at hg; omega⟩
   simp [loopS, partS, signS]
  | succ n ih =>
   intro l hl f g hf hg
   obtain ⟨f', rfl⟩ : ∃ f', f = f' + 1 := ⟨f - 1, by omega⟩
   obtain ⟨g', rfl⟩ : ∃ g', g = g' + 1 := ⟨g - 1, by omega⟩
   unfold loopS
   by_cases hp : (partS l).2 ≠ 0
   ·rw [if_pos hp, if_pos hp]
   ·rw [if_neg hp, if_neg hp]
    have hp0 : (partS l).2 = 0 := by simpa using hp
    have h1 := partS_pos hp0
    have h2 := partS_le l
    split
    ·rename_i hd
     have := ih [] (by simp) f' g' (by simp; omega) (by simp; omega)
     rw [this]
    ·rename_i c r hd
     have hlen := drop_cons_len hd
     have := ih (c :: r) (by simp; omega) f' g' (by simp; omega) (by simp; omega)
     rw [this]
 intro f l h
 exact key l.length l (Nat.le_refl _) _ _ h (Nat.le_refl _)
/-- one part more -/
theorem partsS_bad {l : List UInt8} (h : (partS l).2 ≠ 0) : partsS l = partS l := by unfold partsS loopS; rw [if_pos h]
theorem partsS_shut {l r : List UInt8} (h : (partS l).2 = 0) (hd : l.drop (partS l).1 = 93 :: r) : partsS l = ((partS l).1 + 1, 0) := by
 unfold partsS loopS
 rw [if_neg (by simp [h]), hd]
 simp
theorem partsS_more {l : List UInt8} (h : (partS l).2 = 0) (hd : ∀ r, l.drop (partS l).1 ≠ 93 :: r) : partsS l = ((partS l).1 + (partsS (l.drop (partS l).1)).1, (partsS (l.drop (partS l).1)).2) := by
 have h1 := partS_pos h
 have h2 := partS_le l
 have hl : l.length + 1 = (l.length) + 1 := rfl
 conv => lhs; unfold partsS loopS
 rw [if_neg (by simp [h])]
 have hf : loopS l.length (l.drop (partS l).1) = partsS (l.drop (partS l).1) := by
  unfold partsS
  exact loopS_fuel _ _ (by simp; omega)
 rw [← hf]
 cases hq : l.drop (partS l).1 with
 | nil => rfl
 | cons c r =>
  have hc : c ≠ 93 := by
   intro e
   subst e
   exact hd r hq
  simp [hc]
theorem partsS_le (l : List UInt8) : (partsS l).1 ≤ l.length := by
 have key : ∀ (n : Nat) (l : List UInt8), l.length ≤ n → (partsS l).1 ≤ l.length := by
  intro n
  induction n with
  | zero =>
   intro l hl
   obtain rfl : l = [] := List.eq_nil_of_length_eq_zero (by omega)
   decide
  | succ n ih =>
   intro l hl
   have h2 := partS_le l
   by_cases hp : (partS l).2 = 0
   ·have h1 := partS_pos hp
    by_cases hd : ∃ r, l.drop (partS l).1 = 93 :: r
    ·obtain ⟨r, hr⟩ := hd
     rw [partsS_shut hp hr]
     have := drop_cons_len hr
     simp; omega
    ·rw [partsS_more hp (fun r hr => hd ⟨r, hr⟩)]
     have := ih (l.drop (partS l).1) (by simp; omega)
     simp at this ⊢; omega
   ·rw [partsS_bad hp]; exact h2
 exact key _ l (Nat.le_refl _)
theorem loopS_pos : ∀ (f : Nat) (l : List UInt8), l.length + 1 ≤ f → (loopS f l).2 = 0 → 1 ≤ (loopS f l).1 := by
 intro f l hf h
 obtain ⟨f', rfl⟩ : ∃ f', f = f' + 1 := ⟨f - 1, by omega⟩
 unfold loopS at h ⊢
 split at h
 ·rename_i h1; exact absurd h h1
 ·rename_i h1
  have h0 := partS_pos (l := l) (by simpa using h1)
  rw [if_neg h1]
  split
  ·simp; omega
  ·split <;> simp <;> omega
theorem readS_le (l : List UInt8) : (readS l).1 ≤ l.length := by
 unfold readS
 split
 ·simp
 ·split
  ·split
   ·have := partsS_le []; simp at this ⊢; omega
   ·rename_i b q
    split
    ·have := partsS_le q; simp; omega
    ·have := partsS_le (b :: q); simp at this ⊢; omega
  ·simp
theorem readS_pos {l : List UInt8} (h : (readS l).2 = 0) : 1 ≤ (readS l).1 := by
 unfold readS at h ⊢
 split at h
 ·simp at h
 ·split at h
  ·rename_i hc
   rw [if_pos hc]
   split
   ·simp
   ·split <;> simp <;> omega
  ·simp at h
theorem itemS_le (l : List UInt8) : (itemS l).2.1 ≤ l.length := by
 unfold itemS
 split
 ·simp
 ·rename_i c r
  have := readS_le (c :: r)
  split
  ·simp
  ·split
   ·simp
   ·split
    ·exact this
    ·split
     ·simp
     ·split
      ·split
       ·simp
       ·rename_i h
        have : r.length ≠ 0 := fun e => h (List.eq_nil_of_length_eq_zero e)
        simp; omega
      ·simp
theorem itemS_pos {l : List UInt8} (hl : l ≠ []) (h : (itemS l).2.2 = 0) : 1 ≤ (itemS l).2.1 := by
 cases l with
 | nil => exact absurd rfl hl
 | cons c r =>
  unfold itemS at h ⊢
  by_cases h1 : c = 42
  ·simp [h1]
  ·by_cases h2 : c = 63
   ·simp [h2]
   ·by_cases h3 : c = 91
    ·subst h3
     simp at h ⊢
     exact readS_pos h
    ·by_cases h4 : c = 93
     ·subst h4; simp at h
     ·by_cases h5 : c = 37
      ·subst h5
       by_cases h6 : r = []
       ·subst h6; simp at h
       ·simp [h6]
      ·simp [h1, h2, h3, h4, h5]
theorem parseS_fuel : ∀ (f k : Nat) (l : List UInt8), l.length + 1 ≤ f → parseS f k l = parsesS k l := by
 have key : ∀ (n : Nat) (l : List UInt8), l.length ≤ n → ∀ k f g, l.length + 1 ≤ f → l.length + 1 ≤ g → parseS f k l = parseS g k l := by
  intro n
  induction n with
  | zero =>
   intro l hl k f g hf hg
   obtain rfl : l = [] := List.eq_nil_of_length_eq_zero (by omega)
   obtain ⟨f', rfl⟩ : ∃ f', f = f' + 1 := ⟨f - 1, by simp at hf; omega⟩
   obtain ⟨g', rfl⟩ : ∃ g', g = g' + 1 := ⟨g - 1, by simp at hg; omega⟩
   simp [parseS]
  | succ n ih =>
   intro l hl k f g hf hg
   obtain ⟨f', rfl⟩ : ∃ f', f = f' + 1 := ⟨f - 1, by omega⟩
   obtain ⟨g', rfl⟩ : ∃ g', g = g' + 1 := ⟨g - 1, by omega⟩
   unfold parseS
   by_cases hn : l = []
   ·rw [if_pos hn, if_pos hn]
   ·rw [if_neg hn, if_neg hn]
    by_cases hk : k = 60
    ·rw [if_pos hk, if_pos hk]
    ·rw [if_neg hk, if_neg hk]
     by_cases he : (itemS l).2.2 ≠ 0
     ·rw [if_pos he, if_pos he]
     ·rw [if_neg he, if_neg he]
      have h1 := itemS_pos hn (by simpa using he)
      have h2 := itemS_le l
      have := ih (l.drop (itemS l).2.1) (by simp; omega) (k + 1) f' g' (by simp; omega) (by simp; omega)
      rw [this]
 intro f k l h
 exact key l.length l (Nat.le_refl _) k _ _ h (Nat.le_refl _)
theorem parsesS_nil (k : Nat) : parsesS k [] = ([], 0, 0) := by simp [parsesS, parseS]
theorem parsesS_full {l : List UInt8} (h : l ≠ []) : parsesS 60 l = ([], 0, 4) := by unfold parsesS parseS; rw [if_neg h, if_pos rfl]
theorem parsesS_bad {l : List UInt8} {k : Nat} (h : l ≠ []) (hk : k ≠ 60) (he : (itemS l).2.2 ≠ 0) : parsesS k l = ([], (itemS l).2) := by unfold parsesS parseS; rw [if_neg h, if_neg hk, if_pos he]
theorem parsesS_more {l : List UInt8} {k : Nat} (h : l ≠ []) (hk : k ≠ 60) (he : (itemS l).2.2 = 0) :
 parsesS k l = if (parsesS (k + 1) (l.drop (itemS l).2.1)).2.2 ≠ 0 then ([], (itemS l).2.1 + (parsesS (k + 1) (l.drop (itemS l).2.1)).2.1, (parsesS (k + 1) (l.drop (itemS l).2.1)).2.2) else ((itemS l).1 :: (parsesS (k + 1) (l.drop (itemS l).2.1)).1, 0, 0) := by
 have h1 := itemS_pos h he
 have h2 := itemS_le l
 conv => lhs; unfold parsesS parseS
 rw [if_neg h, if_neg hk, if_neg (by simp [he]), parseS_fuel l.length (k + 1) _ (by simp; omega)]
end Go.Proofs.YtdmdohjdmnmabaaGreatDoor
