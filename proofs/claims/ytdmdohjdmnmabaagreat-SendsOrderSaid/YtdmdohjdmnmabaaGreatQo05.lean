/- Parts of a chain of lemmas: Within, PatP, ProgP, Name. Conditions: those of each theorem. -/
import Derived.Test.YtdmdohjdmnmabaaGreatQo04
import Derived.Test.YtdmdohjdmnmabaaGreatQo01
import Derived.Test.YtdmdohjdmnmabaaGreatQo03
namespace Go.Proofs.YtdmdohjdmnmabaaGreat
open Go.RowKit
set_option linter.unusedVariables false
set_option linter.unusedSimpArgs false

def within (n lo hi : Int) : Int := if n < lo then lo else if hi < n then hi else n
theorem within_c (n lo hi : Int) (w : World) : Calls Tryz.prog 81 #[.int .i64 n, .int .i64 lo, .int .i64 hi] w fun e w' => e = .returned (.int .i64 (within n lo hi)) ∧ w' = w := by
  by_cases h1 : n < lo
  · have HQ := hide (show within n lo hi = lo from if_pos h1)
    have d1 : decide (n < lo) = true := by simp [h1]
    clear h1
    go_enter Tryz.func81, Tryz.ntmps81
    go_wp2_with fail
    go_ret
    exact ⟨by rw [HQ.out]; rfl, rfl⟩
  · have d1 : decide (n < lo) = false := by simp; omega
    by_cases h2 : hi < n
    · have HQ := hide (show within n lo hi = hi by unfold within; rw [if_neg h1, if_pos h2])
      have d2 : decide (hi < n) = true := by simp [h2]
      clear h1 h2
      go_enter Tryz.func81, Tryz.ntmps81
      go_wp2_with fail
      go_ret
      exact ⟨by rw [HQ.out]; rfl, rfl⟩
    · have HQ := hide (show within n lo hi = n by unfold within; rw [if_neg h1, if_neg h2])
      have d2 : decide (hi < n) = false := by simp; omega
      clear h1 h2
      go_enter Tryz.func81, Tryz.ntmps81
      go_wp2_with fail
      go_ret
      exact ⟨by rw [HQ.out]; rfl, rfl⟩
theorem within_bd (n : Int) : 0 ≤ within n 0 1000000000 ∧ within n 0 1000000000 ≤ 1000000000 := by unfold within; split <;> (try split) <;> omega
end Go.Proofs.YtdmdohjdmnmabaaGreat
namespace Go.Proofs.YtdmdohjdmnmabaaGreat
set_option linter.unusedVariables false

/-- a sign of a set's text: how many bytes it takes, which byte it is, what is wrong -/
def signS : List UInt8 → Nat × UInt8 × Nat
  | [] => (0, 0, 3)
  | c :: r => if c = 37 then (match r with | [] => (1, 0, 3) | b :: _ => (2, b, 0)) else if c = 93 ∨ c = 45 then (0, 0, 2) else (1, c, 0)
/-- a part of a set's text -/
def partS (l : List UInt8) : Nat × Nat :=
  if (signS l).2.2 ≠ 0 then ((signS l).1, (signS l).2.2)
  else match l.drop (signS l).1 with
    | [] => ((signS l).1, 0)
    | c :: r => if c = 45 then (if (signS r).2.2 ≠ 0 then ((signS l).1 + 1 + (signS r).1, (signS r).2.2)
        else if (signS r).2.1.toNat < (signS l).2.1.toNat then ((signS l).1 + (signS r).1, 12) else ((signS l).1 + 1 + (signS r).1, 0)) else ((signS l).1, 0)
/-- the parts of a set's text and what shuts it -/
def loopS : Nat → List UInt8 → Nat × Nat
  | 0, _ => (0, 0)
  | f + 1, l => if (partS l).2 ≠ 0 then partS l
    else match l.drop (partS l).1 with
      | [] => ((partS l).1 + (loopS f []).1, (loopS f []).2)
      | c :: r => if c = 93 then ((partS l).1 + 1, 0) else ((partS l).1 + (loopS f (c :: r)).1, (loopS f (c :: r)).2)
def partsS (l : List UInt8) : Nat × Nat := loopS (l.length + 1) l
/-- a set's text -/
def readS : List UInt8 → Nat × Nat
  | [] => (0, 3)
  | c :: r => if c = 91 then (match r with | [] => (1 + (partsS []).1, (partsS []).2) | b :: q => if b = 94 then (2 + (partsS q).1, (partsS q).2) else (1 + (partsS (b :: q)).1, (partsS (b :: q)).2)) else (0, 2)
/-- an item of a pattern's text: whether it is a run, how many bytes it takes, what is wrong -/
def itemS : List UInt8 → Bool × Nat × Nat
  | [] => (false, 0, 0)
  | c :: r => if c = 42 then (true, 1, 0) else if c = 63 then (false, 1, 0) else if c = 91 then (false, readS (c :: r)) else if c = 93 then (false, 0, 2)
    else if c = 37 then (if r = [] then (false, 1, 3) else (false, 2, 0)) else (false, 1, 0)
/-- a pattern's text behind so many items: which items are runs, where what is wrong stands, what is wrong -/
def parseS : Nat → Nat → List UInt8 → List Bool × Nat × Nat
  | 0, _, _ => ([], 0, 0)
  | f + 1, k, l => if l = [] then ([], 0, 0) else if k = 60 then ([], 0, 4)
    else if (itemS l).2.2 ≠ 0 then ([], (itemS l).2.1, (itemS l).2.2)
    else if (parseS f (k + 1) (l.drop (itemS l).2.1)).2.2 ≠ 0 then ([], (itemS l).2.1 + (parseS f (k + 1) (l.drop (itemS l).2.1)).2.1, (parseS f (k + 1) (l.drop (itemS l).2.1)).2.2)
    else ((itemS l).1 :: (parseS f (k + 1) (l.drop (itemS l).2.1)).1, 0, 0)
def parsesS (k : Nat) (l : List UInt8) : List Bool × Nat × Nat := parseS (l.length + 1) k l
/-- what is wrong of a pattern, and where -/
def checkS (l : List UInt8) : Nat × Nat := if (parsesS 0 l).2.2 ≠ 0 then (parsesS 0 l).2 else if (parsesS 0 l).1.all id = true then (0, 9) else (0, 0)

theorem signS_pos {l : List UInt8} (h : (signS l).2.2 = 0) : 1 ≤ (signS l).1 := by
  cases l with
  | nil => simp [signS] at h
  | cons c r =>
    by_cases h1 : c = 37
    · subst h1
      cases r with
      | nil => simp [signS] at h
      | cons b q => simp [signS]
    · by_cases h2 : c = 93 ∨ c = 45
      · simp [signS, h1, h2] at h
      · simp [signS, h1, h2]
theorem signS_le (l : List UInt8) : (signS l).1 ≤ l.length := by
  unfold signS
  split
  · simp
  · split
    · split <;> simp
    · split <;> simp
theorem drop_cons_len {α : Type} {l r : List α} {n : Nat} {c : α} (h : l.drop n = c :: r) : n + 1 + r.length = l.length := by
  have h1 := congrArg List.length h
  simp at h1
  omega
theorem partS_le (l : List UInt8) : (partS l).1 ≤ l.length := by
  have h1 := signS_le l
  unfold partS
  split
  · exact h1
  · split
    · exact h1
    · rename_i c r h
      have h2 := drop_cons_len h
      have h3 := signS_le r
      split
      · split
        · simp; omega
        · split <;> simp <;> omega
      · exact h1
theorem partS_pos {l : List UInt8} (h : (partS l).2 = 0) : 1 ≤ (partS l).1 := by
  unfold partS at h ⊢
  split at h
  · rename_i h1; exact absurd h h1
  · rename_i h1
    have h2 : (signS l).2.2 = 0 := by simpa using h1
    have h3 := signS_pos h2
    rw [if_neg h1]
    split
    · exact h3
    · split
      · split
        · simp; omega
        · split
          · rename_i hd _ _ _ _ 
            simp_all
          · simp; omega
      · exact h3
theorem loopS_fuel : ∀ (f : Nat) (l : List UInt8), l.length + 1 ≤ f → loopS f l = loopS (l.length + 1) l := by
  have key : ∀ (n : Nat) (l : List UInt8), l.length ≤ n → ∀ f g, l.length + 1 ≤ f → l.length + 1 ≤ g → loopS f l = loopS g l := by
    intro n
    induction n with
    | zero =>
      intro l hl f g hf hg
      obtain rfl : l = [] := List.eq_nil_of_length_eq_zero (by omega)
      obtain ⟨f', rfl⟩ : ∃ f', f = f' + 1 := ⟨f - 1, by simp at hf; omega⟩
      obtain ⟨g', rfl⟩ : ∃ g', g = g' + 1 := ⟨g - 1, by simp at hg; omega⟩
      simp [loopS, partS, signS]
    | succ n ih =>
      intro l hl f g hf hg
      obtain ⟨f', rfl⟩ : ∃ f', f = f' + 1 := ⟨f - 1, by omega⟩
      obtain ⟨g', rfl⟩ : ∃ g', g = g' + 1 := ⟨g - 1, by omega⟩
      unfold loopS
      by_cases hp : (partS l).2 ≠ 0
      · rw [if_pos hp, if_pos hp]
      · rw [if_neg hp, if_neg hp]
        have hp0 : (partS l).2 = 0 := by simpa using hp
        have h1 := partS_pos hp0
        have h2 := partS_le l
        split
        · rename_i hd
          have := ih [] (by simp) f' g' (by simp; omega) (by simp; omega)
          rw [this]
        · rename_i c r hd
          have hlen := drop_cons_len hd
          have := ih (c :: r) (by simp; omega) f' g' (by simp; omega) (by simp; omega)
          rw [this]
  intro f l h
  exact key l.length l (Nat.le_refl _) _ _ h (Nat.le_refl _)
/-- one part more -/
theorem partsS_bad {l : List UInt8} (h : (partS l).2 ≠ 0) : partsS l = partS l := by unfold partsS loopS; rw [if_pos h]
theorem partsS_shut {l r : List UInt8} (h : (partS l).2 = 0) (hd : l.drop (partS l).1 = 93 :: r) : partsS l = ((partS l).1 + 1, 0) := by
  unfold partsS loopS
  rw [if_neg (by simp [h]), hd]
  simp
theorem partsS_more {l : List UInt8} (h : (partS l).2 = 0) (hd : ∀ r, l.drop (partS l).1 ≠ 93 :: r) : partsS l = ((partS l).1 + (partsS (l.drop (partS l).1)).1, (partsS (l.drop (partS l).1)).2) := by
  have h1 := partS_pos h
  have h2 := partS_le l
  have hl : l.length + 1 = (l.length) + 1 := rfl
  conv => lhs; unfold partsS loopS
  rw [if_neg (by simp [h])]
  have hf : loopS l.length (l.drop (partS l).1) = partsS (l.drop (partS l).1) := by
    unfold partsS
    exact loopS_fuel _ _ (by simp; omega)
  rw [← hf]
  cases hq : l.drop (partS l).1 with
  | nil => rfl
  | cons c r =>
    have hc : c ≠ 93 := by
      intro e
      subst e
      exact hd r hq
    simp [hc]
theorem partsS_le (l : List UInt8) : (partsS l).1 ≤ l.length := by
  have key : ∀ (n : Nat) (l : List UInt8), l.length ≤ n → (partsS l).1 ≤ l.length := by
    intro n
    induction n with
    | zero =>
      intro l hl
      obtain rfl : l = [] := List.eq_nil_of_length_eq_zero (by omega)
      decide
    | succ n ih =>
      intro l hl
      have h2 := partS_le l
      by_cases hp : (partS l).2 = 0
      · have h1 := partS_pos hp
        by_cases hd : ∃ r, l.drop (partS l).1 = 93 :: r
        · obtain ⟨r, hr⟩ := hd
          rw [partsS_shut hp hr]
          have := drop_cons_len hr
          simp; omega
        · rw [partsS_more hp (fun r hr => hd ⟨r, hr⟩)]
          have := ih (l.drop (partS l).1) (by simp; omega)
          simp at this ⊢; omega
      · rw [partsS_bad hp]; exact h2
  exact key _ l (Nat.le_refl _)
theorem loopS_pos : ∀ (f : Nat) (l : List UInt8), l.length + 1 ≤ f → (loopS f l).2 = 0 → 1 ≤ (loopS f l).1 := by
  intro f l hf h
  obtain ⟨f', rfl⟩ : ∃ f', f = f' + 1 := ⟨f - 1, by omega⟩
  unfold loopS at h ⊢
  split at h
  · rename_i h1; exact absurd h h1
  · rename_i h1
    have h0 := partS_pos (l := l) (by simpa using h1)
    rw [if_neg h1]
    split
    · simp; omega
    · split <;> simp <;> omega
theorem readS_le (l : List UInt8) : (readS l).1 ≤ l.length := by
  unfold readS
  split
  · simp
  · split
    · split
      · have := partsS_le []; simp at this ⊢; omega
      · rename_i b q
        split
        · have := partsS_le q; simp; omega
        · have := partsS_le (b :: q); simp at this ⊢; omega
    · simp
theorem readS_pos {l : List UInt8} (h : (readS l).2 = 0) : 1 ≤ (readS l).1 := by
  unfold readS at h ⊢
  split at h
  · simp at h
  · split at h
    · rename_i hc
      rw [if_pos hc]
      split
      · simp
      · split <;> simp <;> omega
    · simp at h
theorem itemS_le (l : List UInt8) : (itemS l).2.1 ≤ l.length := by
  unfold itemS
  split
  · simp
  · rename_i c r
    have := readS_le (c :: r)
    split
    · simp
    · split
      · simp
      · split
        · exact this
        · split
          · simp
          · split
            · split
              · simp
              · rename_i h
                have : r.length ≠ 0 := fun e => h (List.eq_nil_of_length_eq_zero e)
                simp; omega
            · simp
theorem itemS_pos {l : List UInt8} (hl : l ≠ []) (h : (itemS l).2.2 = 0) : 1 ≤ (itemS l).2.1 := by
  cases l with
  | nil => exact absurd rfl hl
  | cons c r =>
    unfold itemS at h ⊢
    by_cases h1 : c = 42
    · simp [h1]
    · by_cases h2 : c = 63
      · simp [h2]
      · by_cases h3 : c = 91
        · subst h3
          simp at h ⊢
          exact readS_pos h
        · by_cases h4 : c = 93
          · subst h4; simp at h
          · by_cases h5 : c = 37
            · subst h5
              by_cases h6 : r = []
              · subst h6; simp at h
              · simp [h6]
            · simp [h1, h2, h3, h4, h5]
theorem parseS_fuel : ∀ (f k : Nat) (l : List UInt8), l.length + 1 ≤ f → parseS f k l = parsesS k l := by
  have key : ∀ (n : Nat) (l : List UInt8), l.length ≤ n → ∀ k f g, l.length + 1 ≤ f → l.length + 1 ≤ g → parseS f k l = parseS g k l := by
    intro n
    induction n with
    | zero =>
      intro l hl k f g hf hg
      obtain rfl : l = [] := List.eq_nil_of_length_eq_zero (by omega)
      obtain ⟨f', rfl⟩ : ∃ f', f = f' + 1 := ⟨f - 1, by simp at hf; omega⟩
      obtain ⟨g', rfl⟩ : ∃ g', g = g' + 1 := ⟨g - 1, by simp at hg; omega⟩
      simp [parseS]
    | succ n ih =>
      intro l hl k f g hf hg
      obtain ⟨f', rfl⟩ : ∃ f', f = f' + 1 := ⟨f - 1, by omega⟩
      obtain ⟨g', rfl⟩ : ∃ g', g = g' + 1 := ⟨g - 1, by omega⟩
      unfold parseS
      by_cases hn : l = []
      · rw [if_pos hn, if_pos hn]
      · rw [if_neg hn, if_neg hn]
        by_cases hk : k = 60
        · rw [if_pos hk, if_pos hk]
        · rw [if_neg hk, if_neg hk]
          by_cases he : (itemS l).2.2 ≠ 0
          · rw [if_pos he, if_pos he]
          · rw [if_neg he, if_neg he]
            have h1 := itemS_pos hn (by simpa using he)
            have h2 := itemS_le l
            have := ih (l.drop (itemS l).2.1) (by simp; omega) (k + 1) f' g' (by simp; omega) (by simp; omega)
            rw [this]
  intro f k l h
  exact key l.length l (Nat.le_refl _) k _ _ h (Nat.le_refl _)
theorem parsesS_nil (k : Nat) : parsesS k [] = ([], 0, 0) := by simp [parsesS, parseS]
theorem parsesS_full {l : List UInt8} (h : l ≠ []) : parsesS 60 l = ([], 0, 4) := by unfold parsesS parseS; rw [if_neg h, if_pos rfl]
theorem parsesS_bad {l : List UInt8} {k : Nat} (h : l ≠ []) (hk : k ≠ 60) (he : (itemS l).2.2 ≠ 0) : parsesS k l = ([], (itemS l).2) := by unfold parsesS parseS; rw [if_neg h, if_neg hk, if_pos he]
theorem parsesS_more {l : List UInt8} {k : Nat} (h : l ≠ []) (hk : k ≠ 60) (he : (itemS l).2.2 = 0) :
    parsesS k l = if (parsesS (k + 1) (l.drop (itemS l).2.1)).2.2 ≠ 0 then ([], (itemS l).2.1 + (parsesS (k + 1) (l.drop (itemS l).2.1)).2.1, (parsesS (k + 1) (l.drop (itemS l).2.1)).2.2) else ((itemS l).1 :: (parsesS (k + 1) (l.drop (itemS l).2.1)).1, 0, 0) := by
  have h1 := itemS_pos h he
  have h2 := itemS_le l
  conv => lhs; unfold parsesS parseS
  rw [if_neg h, if_neg hk, if_neg (by simp [he]), parseS_fuel l.length (k + 1) _ (by simp; omega)]
end Go.Proofs.YtdmdohjdmnmabaaGreat
namespace Go.Proofs.YtdmdohjdmnmabaaGreat
set_option linter.unusedVariables false

/-- an arm: a pattern, and the op that comes -/
structure ArmM where
  pat : ByteArray
  «to» : Int
/-- an op -/
structure OpM where
  kind : Int
  text : ByteArray
  n : Int
  «to» : Int
  arms : List ArmM
  onT : Int
  onE : Int
/-- a script -/
structure ProgM where
  name : ByteArray
  deadline : Int
  jumps : Int
  ops : List OpM

def okC (c : UInt8) : Bool := (decide (97 ≤ c.toNat) && decide (c.toNat ≤ 122)) || (decide (48 ≤ c.toNat) && decide (c.toNat ≤ 57))
/-- whether a text is a name -/
def nameL (l : List UInt8) : Bool := decide (l ≠ []) && decide (l.length ≤ 16) && decide (97 ≤ (l.getD 0 0).toNat) && l.all okC
def nameB (s : ByteArray) : Bool := nameL s.data.toList
/-- whether an op comes -/
def comesB (k : Nat) (t : Int) : Bool := decide (0 ≤ t) && decide (t ≤ k)
/-- whether an op has nothing but what its kind has -/
def bareB (o : OpM) : Bool := (decide (o.kind = 1) || decide (o.text.size = 0)) && (decide (o.kind = 2) || decide (o.kind = 4) || decide (o.n = 0)) && (decide (o.kind = 3) || decide (o.to = 0)) &&
  (decide (o.kind = 2) || (decide (o.arms.length = 0) && decide (o.onT = 0) && decide (o.onE = 0)))
def patE (s : ByteArray) : Int := ((checkS s.data.toList).2 : Nat)
def armE (k : Nat) (a : ArmM) : Int := if 64 < a.pat.size then 4 else if patE a.pat ≠ 0 then patE a.pat else if comesB k a.to = true then 0 else 13
/-- the first that is not 0 -/
def firstE : List Int → Int
  | [] => 0
  | e :: r => if e ≠ 0 then e else firstE r
def tickB (least n : Int) : Bool := decide (least ≤ n) && decide (n ≤ 1000000000000)
def nevB (n : Int) : Bool := decide (n = 9223372036854775807)
def toB (k : Nat) (t : Int) : Bool := decide (t = -1) || comesB k t
def expectE (k : Nat) (o : OpM) : Int := if (nevB o.n || tickB 0 o.n) = false then 12 else if 8 < o.arms.length then 4 else if firstE (o.arms.map (armE k)) ≠ 0 then firstE (o.arms.map (armE k))
  else if (toB k o.onT && toB k o.onE) = true then 0 else 13
/-- what is wrong of an op -/
def opE (k : Nat) (o : OpM) : Int := if o.kind < 1 ∨ 6 < o.kind then 11 else if bareB o = false then 2 else if o.kind = 1 then (if o.text.size = 0 then 9 else if 256 < o.text.size then 4 else 0)
  else if o.kind = 2 then expectE k o else if o.kind = 3 then (if comesB k o.to = true then 0 else 13) else if o.kind = 4 then (if tickB 0 o.n = true then 0 else 12) else 0
/-- the place of the first that is not 0, and it -/
def firstAt : Nat → List Int → Int × Int
  | _, [] => (0, 0)
  | i, e :: r => if e ≠ 0 then (i, e) else firstAt (i + 1) r
def headE (p : ProgM) : Int := if nameB p.name = false then 10 else if ((nevB p.deadline || tickB 1 p.deadline) && decide (0 ≤ p.jumps) && decide (p.jumps ≤ 1000)) = false then 12 else if 200 < p.ops.length then 4 else 0
/-- what is wrong of a script, and where -/
def wrongM (p : ProgM) : Int × Int := if headE p ≠ 0 then (-1, headE p) else firstAt 0 (p.ops.map (opE p.ops.length))
def goodM (p : ProgM) : Bool := decide ((wrongM p).2 = 0)

theorem firstE_take {l : List Int} {k : Nat} (h : ∀ j, j < k → l.getD j 0 = 0) (hk : k < l.length) (hn : l.getD k 0 ≠ 0) : firstE l = l.getD k 0 := by
  induction l generalizing k with
  | nil => simp at hk
  | cons e r ih =>
    cases k with
    | zero => simp at hn; simp [firstE, hn]
    | succ k =>
      have h0 := h 0 (by omega)
      simp at h0
      subst h0
      simp [firstE]
      simp at hk hn
      exact ih (fun j hj => by have := h (j + 1) (by omega); simpa using this) hk (by simpa using hn)
theorem firstE_zero {l : List Int} (h : ∀ j, j < l.length → l.getD j 0 = 0) : firstE l = 0 := by
  induction l with
  | nil => rfl
  | cons e r ih =>
    have h0 := h 0 (by simp)
    simp at h0
    subst h0
    simp [firstE]
    exact ih (fun j hj => by have := h (j + 1) (by simp; omega); simpa using this)
theorem firstAt_take {l : List Int} {i k : Nat} (h : ∀ j, j < k → l.getD j 0 = 0) (hk : k < l.length) (hn : l.getD k 0 ≠ 0) : firstAt i l = (((i + k : Nat) : Int), l.getD k 0) := by
  induction l generalizing k i with
  | nil => simp at hk
  | cons e r ih =>
    cases k with
    | zero => simp at hn; simp [firstAt, hn]
    | succ k =>
      have h0 := h 0 (by omega)
      simp at h0
      subst h0
      simp at hk hn
      have := ih (i := i + 1) (k := k) (fun j hj => by have := h (j + 1) (by omega); simpa using this) hk (by simpa using hn)
      simp [firstAt]
      rw [this]
      simp
      omega
theorem firstAt_zero {l : List Int} {i : Nat} (h : ∀ j, j < l.length → l.getD j 0 = 0) : firstAt i l = (0, 0) := by
  induction l generalizing i with
  | nil => rfl
  | cons e r ih =>
    have h0 := h 0 (by simp)
    simp at h0
    subst h0
    simp [firstAt]
    exact ih (fun j hj => by have := h (j + 1) (by simp; omega); simpa using this)
end Go.Proofs.YtdmdohjdmnmabaaGreat
namespace Go.Proofs.YtdmdohjdmnmabaaGreat
open Go.RowKit
set_option linter.unusedVariables false

theorem ba_nil {s : ByteArray} (h : s.size = 0) : s.toList = [] := by
  rw [ByteArray.toList_eq]
  exact List.eq_nil_of_length_eq_zero (by rw [ba_size]; exact h)
theorem ba_some {s : ByteArray} (h : s.size ≠ 0) : s.toList.isEmpty = false := by
  rw [ByteArray.toList_eq]
  cases hq : s.data.toList with
  | nil => exact absurd (by rw [← ba_size, hq]; rfl) h
  | cons a r => rfl
theorem ba_get (s : ByteArray) (k : Nat) (h : k < s.size) : s.data.toList[k]? = some s[k] := by
  rw [List.getElem?_eq_getElem (by rw [ba_size]; exact h)]
  rfl
theorem name_no {s : ByteArray} {k : Nat} (h : k < s.size) (hc : okC s[k] = false) : nameB s = false := by
  unfold nameB nameL
  have hm : s[k] ∈ s.data.toList := List.mem_of_getElem? (ba_get s k h)
  have : s.data.toList.all okC = false := by
    cases hq : s.data.toList.all okC with
    | false => rfl
    | true => rw [List.all_eq_true] at hq; rw [hq _ hm] at hc; cases hc
  rw [this]; simp
theorem name_first {s : ByteArray} (h : 0 < s.size) (hc : s[0].toNat < 97) : nameB s = false := by
  unfold nameB nameL
  have e : s.data.toList.getD 0 0 = s[0] := by rw [List.getD_eq_getElem?_getD, ba_get s 0 h]; rfl
  rw [e]
  have : decide (97 ≤ s[0].toNat) = false := by simp; omega
  rw [this]; simp
theorem name_size {s : ByteArray} (h : s.size = 0 ∨ 16 < s.size) : nameB s = false := by
  unfold nameB nameL
  rcases h with h | h
  · have e : s.data.toList = [] := List.eq_nil_of_length_eq_zero (by rw [ba_size]; exact h)
    rw [e]; rfl
  · have : decide (s.data.toList.length ≤ 16) = false := by rw [ba_size]; simp; omega
    rw [this]; simp
theorem name_yes {s : ByteArray} (h0 : 0 < s.size) (h16 : s.size ≤ 16) (hf : 97 ≤ s[0].toNat) (h : ∀ k, (hk : k < s.size) → okC s[k] = true) : nameB s = true := by
  unfold nameB nameL
  have e : s.data.toList.getD 0 0 = s[0] := by rw [List.getD_eq_getElem?_getD, ba_get s 0 h0]; rfl
  have hne : s.data.toList ≠ [] := fun e => by have := ba_size s; rw [e] at this; simp at this; omega
  have hall : s.data.toList.all okC = true := by
    rw [List.all_eq_true]
    intro x hx
    obtain ⟨k, hk, rfl⟩ := List.mem_iff_getElem.1 hx
    exact h k (by rw [← ba_size]; exact hk)
  rw [e, hall]
  simp [hne, hf, h16]
theorem okC_t {c : UInt8} (h : 97 ≤ c.toNat ∧ c.toNat ≤ 122 ∨ 48 ≤ c.toNat ∧ c.toNat ≤ 57) : okC c = true := by
  unfold okC; rcases h with ⟨a, b⟩ | ⟨a, b⟩ <;> simp [a, b]
theorem okC_f {c : UInt8} (h : ¬ (97 ≤ c.toNat ∧ c.toNat ≤ 122 ∨ 48 ≤ c.toNat ∧ c.toNat ≤ 57)) : okC c = false := by
  cases hq : okC c with
  | false => rfl
  | true =>
    exfalso
    apply h
    unfold okC at hq
    simp at hq
    omega

set_option maxRecDepth 100000 in
set_option maxHeartbeats 1600000 in
theorem Name_c (s : ByteArray) (w : World) (hs : s.size ≤ 9223372036854775807) :
    Calls Tryz.prog 101 #[.string s] w fun e w' => e = .returned (.bool (nameB s)) ∧ w = w' := by
  by_cases h0 : s.size = 0
  · have H := hide (name_size (Or.inl h0))
    have e1 := ba_nil h0
    have e2 : s.toList.isEmpty = true := by rw [e1]; rfl
    clear h0
    go_enter Tryz.func101, Tryz.ntmps101
    go_wp2
    go_ret
    exact ⟨by rw [H.out]; rfl, rfl⟩
  · have e2 := ba_some h0
    by_cases h16 : 16 < s.size
    · have H := hide (name_size (Or.inr h16))
      have d1 : decide ((16 : Int) < (s.size : Int)) = true := by simp; omega
      have d2 : decide (16 < s.size) = true := by simp; omega
      go_enter Tryz.func101, Tryz.ntmps101
      go_wp2
      go_ret
      exact ⟨by rw [H.out]; rfl, rfl⟩
    · have d1 : decide ((16 : Int) < (s.size : Int)) = false := by simp; omega
      have d2 : decide (16 < s.size) = false := by simp; omega
      have hp : 0 < s.size := by omega
      have hp2 : (0 : Int) < (s.size : Int) := by omega
      by_cases hf : s[0].toNat < 97
      · have H := hide (name_first hp hf)
        have d3 : decide ((s[0].toNat : Int) < 97) = true := by simp; omega
        have d4 : decide (s[0].toNat < 97) = true := by simp; omega
        go_enter Tryz.func101, Tryz.ntmps101
        go_wp2
        go_ret
        exact ⟨by rw [H.out]; rfl, rfl⟩
      · have H := hide (fun h => name_yes hp (by omega) (by omega) h)
        have d3 : decide ((s[0].toNat : Int) < 97) = false := by simp; omega
        have d4 : decide (s[0].toNat < 97) = false := by simp; omega
        go_enter Tryz.func101, Tryz.ntmps101
        go_wp2
        go_loop [3, 18] (fun _ i => ∃ k : Nat, k ≤ s.size ∧ i = .int .i64 k ∧ Hid (∀ j, (hj : j < s.size) → j < k → okC s[j] = true)) (fun _ i => s.size - (intOf i).toNat)
        case atStart => exact ⟨0, Nat.zero_le _, rfl, hide (fun j hj h => by omega)⟩
        case round =>
          obtain ⟨k, hk, rfl, hall⟩ := hrel
          by_cases hlt : k < s.size
          · have HF := hide (fun h => name_no hlt (okC_f h))
            have HT := hide (show (97 ≤ s[k].toNat ∧ s[k].toNat ≤ 122 ∨ 48 ≤ s[k].toNat ∧ s[k].toNat ≤ 57) → okC s[k] = true from okC_t)
            have hb : s[k].toNat < 256 := UInt8.toNat_lt _
            go_wp2
            all_goals first
              | (go_ret
                 exact ⟨by rw [HF.out (by omega)]; rfl, rfl⟩)
              | (go_round
                 case rel => exact ⟨k + 1, by omega, by go_num, hide (fun j hj h => by
                   rcases Nat.lt_or_ge j k with hjk | hjk
                   · exact hall.out j hj hjk
                   · obtain rfl : j = k := by omega
                     exact HT.out (by omega))⟩
                 case measure => simp [intOf]; omega)
          · go_wp2
            go_ret
            exact ⟨by rw [H.out (fun j hj => hall.out j hj (by omega))]; rfl, rfl⟩
end Go.Proofs.YtdmdohjdmnmabaaGreat
