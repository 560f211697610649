/- Scripts, plain: what is wrong of a script, and where. No program. Conditions: those of each theorem. -/
import Derived.Test.YtdmdohjdmnmabaaGreatPatP
namespace Go.Proofs.YtdmdohjdmnmabaaGreat
set_option linter.unusedVariables false

/-- an arm: a pattern, and the op that comes -/
structure ArmM where
  pat : ByteArray
  to : Int
/-- an op -/
structure OpM where
  kind : Int
  text : ByteArray
  n : Int
  to : Int
  arms : List ArmM
  onT : Int
  onE : Int
/-- a script -/
structure ProgM where
  name : ByteArray
  deadline : Int
  jumps : Int
  ops : List OpM

def okC (c : UInt8) : Bool := (decide (97 ≤ c.toNat) && decide (c.toNat ≤ 122)) || (decide (48 ≤ c.toNat) && decide (c.toNat ≤ 57))
/-- whether a text is a name -/
def nameL (l : List UInt8) : Bool := decide (l ≠ []) && decide (l.length ≤ 16) && decide (97 ≤ (l.getD 0 0).toNat) && l.all okC
def nameB (s : ByteArray) : Bool := nameL s.data.toList
/-- whether an op comes -/
def comesB (k : Nat) (to : Int) : Bool := decide (0 ≤ to) && decide (to ≤ k)
/-- whether an op has nothing but what its kind has -/
def bareB (o : OpM) : Bool := (decide (o.kind = 1) || decide (o.text.size = 0)) && (decide (o.kind = 2) || decide (o.kind = 4) || decide (o.n = 0)) && (decide (o.kind = 3) || decide (o.to = 0)) &&
  (decide (o.kind = 2) || (decide (o.arms.length = 0) && decide (o.onT = 0) && decide (o.onE = 0)))
def patE (s : ByteArray) : Int := ((checkS s.data.toList).2 : Nat)
def armE (k : Nat) (a : ArmM) : Int := if 64 < a.pat.size then 4 else if patE a.pat ≠ 0 then patE a.pat else if comesB k a.to = true then 0 else 13
/-- the first that is not 0 -/
def firstE : List Int → Int
  | [] => 0
  | e :: r => if e ≠ 0 then e else firstE r
def tickB (least n : Int) : Bool := decide (least ≤ n) && decide (n ≤ 1000000000000)
def nevB (n : Int) : Bool := decide (n = 9223372036854775807)
def toB (k : Nat) (to : Int) : Bool := decide (to = -1) || comesB k to
def expectE (k : Nat) (o : OpM) : Int := if (nevB o.n || tickB 0 o.n) = false then 12 else if 8 < o.arms.length then 4 else if firstE (o.arms.map (armE k)) ≠ 0 then firstE (o.arms.map (armE k))
  else if (toB k o.onT && toB k o.onE) = true then 0 else 13
/-- what is wrong of an op -/
def opE (k : Nat) (o : OpM) : Int := if o.kind < 1 ∨ 6 < o.kind then 11 else if bareB o = false then 2 else if o.kind = 1 then (if o.text.size = 0 then 9 else if 256 < o.text.size then 4 else 0)
  else if o.kind = 2 then expectE k o else if o.kind = 3 then (if comesB k o.to = true then 0 else 13) else if o.kind = 4 then (if tickB 0 o.n = true then 0 else 12) else 0
/-- the place of the first that is not 0, and it -/
def firstAt : Nat → List Int → Int × Int
  | _, [] => (0, 0)
  | i, e :: r => if e ≠ 0 then (i, e) else firstAt (i + 1) r
def headE (p : ProgM) : Int := if nameB p.name = false then 10 else if ((nevB p.deadline || tickB 1 p.deadline) && decide (0 ≤ p.jumps) && decide (p.jumps ≤ 1000)) = false then 12 else if 200 < p.ops.length then 4 else 0
/-- what is wrong of a script, and where -/
def wrongM (p : ProgM) : Int × Int := if headE p ≠ 0 then (-1, headE p) else firstAt 0 (p.ops.map (opE p.ops.length))
def goodM (p : ProgM) : Bool := decide ((wrongM p).2 = 0)

theorem firstE_take {l : List Int} {k : Nat} (h : ∀ j, j < k → l.getD j 0 = 0) (hk : k < l.length) (hn : l.getD k 0 ≠ 0) : firstE l = l.getD k 0 := by
  induction l generalizing k with
  | nil => simp at hk
  | cons e r ih =>
    cases k with
    | zero => simp at hn; simp [firstE, hn]
    | succ k =>
      have h0 := h 0 (by omega)
      simp at h0
      subst h0
      simp [firstE]
      simp at hk hn
      exact ih (fun j hj => by have := h (j + 1) (by omega); simpa using this) hk (by simpa using hn)
theorem firstE_zero {l : List Int} (h : ∀ j, j < l.length → l.getD j 0 = 0) : firstE l = 0 := by
  induction l with
  | nil => rfl
  | cons e r ih =>
    have h0 := h 0 (by simp)
    simp at h0
    subst h0
    simp [firstE]
    exact ih (fun j hj => by have := h (j + 1) (by simp; omega); simpa using this)
theorem firstAt_take {l : List Int} {i k : Nat} (h : ∀ j, j < k → l.getD j 0 = 0) (hk : k < l.length) (hn : l.getD k 0 ≠ 0) : firstAt i l = (((i + k : Nat) : Int), l.getD k 0) := by
  induction l generalizing k i with
  | nil => simp at hk
  | cons e r ih =>
    cases k with
    | zero => simp at hn; simp [firstAt, hn]
    | succ k =>
      have h0 := h 0 (by omega)
      simp at h0
      subst h0
      simp at hk hn
      have := ih (i := i + 1) (k := k) (fun j hj => by have := h (j + 1) (by omega); simpa using this) hk (by simpa using hn)
      simp [firstAt]
      rw [this]
      simp
      omega
theorem firstAt_zero {l : List Int} {i : Nat} (h : ∀ j, j < l.length → l.getD j 0 = 0) : firstAt i l = (0, 0) := by
  induction l generalizing i with
  | nil => rfl
  | cons e r ih =>
    have h0 := h 0 (by simp)
    simp at h0
    subst h0
    simp [firstAt]
    exact ih (fun j hj => by have := h (j + 1) (by simp; omega); simpa using this)
end Go.Proofs.YtdmdohjdmnmabaaGreat
