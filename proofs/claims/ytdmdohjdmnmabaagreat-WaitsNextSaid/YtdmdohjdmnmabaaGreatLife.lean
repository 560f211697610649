/- Events, and the life of one: plain lists, no program. Conditions: those of each theorem. -/
import Derived.Test.YtdmdohjdmnmabaaGreatStr
namespace Go.Proofs.YtdmdohjdmnmabaaGreat
open Go.RowKit
set_option linter.unusedVariables false

structure Stp where
  tick : Int
  at_ : Int
  what : Int
  arm : Int
  n : Int
  status : Int
structure Ev where
  k : Int
  id : Int
  n : Int
  tick : Int
  s : ByteArray
  err : Int
  st : Stp
structure Inp where
  k : Int
  s : ByteArray
  n : Int
  tick : Int
def encStp (x : Stp) : List Value := [.int .i64 x.tick, .int .i64 x.at_, .int .i64 x.what, .int .i64 x.arm, .int .i64 x.n, .int .i64 x.status]
def encEv (x : Ev) : List Value := [.int .i64 x.k, .int .i64 x.id, .int .i64 x.n, .int .i64 x.tick, .string x.s, .int .i64 x.err, .int .i64 x.st.tick, .int .i64 x.st.at_, .int .i64 x.st.what, .int .i64 x.st.arm, .int .i64 x.st.n, .int .i64 x.st.status]
def encInp (x : Inp) : List Value := [.int .i64 x.k, .string x.s, .int .i64 x.n, .int .i64 x.tick]
theorem encStp_len (x : Stp) : (encStp x).length = 6 := rfl
theorem encEv_len (x : Ev) : (encEv x).length = 12 := rfl
theorem encInp_len (x : Inp) : (encInp x).length = 4 := rfl

structure LifeM where
  script : Int
  start : Int
  ins : List Inp
  steps : List Stp
  read : ByteArray
  taken : ByteArray
  eof : Bool
  status : Int
def life0 (script start : Int) : LifeM := ⟨script, start, [], [], ⟨#[]⟩, ⟨#[]⟩, false, 0⟩
def addL (id : Int) (f : LifeM) (x : Ev) : LifeM :=
  if x.k = 7 ∧ f.status = 0 then { f with ins := f.ins ++ [⟨4, ⟨#[]⟩, 0, x.tick⟩] }
  else if x.id ≠ id then f
  else if x.k = 4 then { f with ins := f.ins ++ [⟨1, x.s, 0, 0⟩], read := f.read ++ x.s }
  else if x.k = 5 then { f with ins := f.ins ++ [⟨2, ⟨#[]⟩, 0, 0⟩], eof := true }
  else if x.k = 6 then { f with ins := f.ins ++ [⟨3, ⟨#[]⟩, x.n, 0⟩], taken := f.taken ++ x.s }
  else if x.k = 8 then { f with ins := f.ins ++ [⟨5, ⟨#[]⟩, 0, x.st.tick⟩], steps := f.steps ++ [x.st], status := x.st.status }
  else f
/-- the tick of the last round -/
def clockOf (c : Int) (l : List Ev) : Int := l.foldl (fun c x => if x.k = 1 then x.tick else c) c
def opens (id : Int) (x : Ev) : Bool := decide (x.k = 2 ∧ x.id = id)
/-- the life of one -/
def lifeGo (id : Int) : Int → List Ev → Option LifeM
  | _, [] => none
  | c, x :: r => if opens id x then some (r.foldl (addL id) (life0 x.n c)) else lifeGo id (if x.k = 1 then x.tick else c) r
def ownOf (id : Int) (x : Ev) : Bool := decide (x.id = id ∨ x.k = 1 ∨ x.k = 7)
theorem addL_other (id : Int) (f : LifeM) (x : Ev) (h : ownOf id x = false) : addL id f x = f := by
  unfold ownOf at h
  rw [decide_eq_false_iff_not] at h
  unfold addL
  rw [if_neg (by omega), if_pos (by omega)]
theorem foldl_own (id : Int) (l : List Ev) : ∀ f : LifeM, (l.filter (ownOf id)).foldl (addL id) f = l.foldl (addL id) f := by
  induction l with
  | nil => intro f; rfl
  | cons x r ih =>
    intro f
    by_cases h : ownOf id x = true
    · rw [List.filter_cons_of_pos h]
      exact ih _
    · rw [List.filter_cons_of_neg h]
      rw [List.foldl_cons, addL_other id f x (by simpa using h)]
      exact ih _
/-- what is told of others changes no life -/
theorem lifeGo_own (id : Int) (l : List Ev) : ∀ c : Int, lifeGo id c (l.filter (ownOf id)) = lifeGo id c l := by
  induction l with
  | nil => intro c; rfl
  | cons x r ih =>
    intro c
    by_cases h : ownOf id x = true
    · rw [List.filter_cons_of_pos h]
      unfold lifeGo
      by_cases ho : opens id x = true
      · rw [if_pos ho, if_pos ho, foldl_own]
      · rw [if_neg ho, if_neg ho]
        exact ih _
    · rw [List.filter_cons_of_neg h]
      have h' : ownOf id x = false := by simpa using h
      unfold ownOf at h'
      rw [decide_eq_false_iff_not] at h'
      have ho : ¬ opens id x = true := by
        unfold opens
        rw [decide_eq_true_iff]
        omega
      conv => rhs; unfold lifeGo
      rw [if_neg ho, if_neg (by omega)]
      exact ih _
/-- by the place where it was opened -/
theorem lifeGo_none (id : Int) (l : List Ev) (h : ∀ x ∈ l, opens id x = false) : ∀ c, lifeGo id c l = none := by
  induction l with
  | nil => intro c; rfl
  | cons x r ih =>
    intro c
    unfold lifeGo
    rw [if_neg (by rw [h x (by simp)]; decide)]
    exact ih (fun y hy => h y (by simp [hy])) _
theorem lifeGo_at (id : Int) (pre : List Ev) (x : Ev) (post : List Ev) (h : ∀ y ∈ pre, opens id y = false) (hx : opens id x = true) : ∀ c, lifeGo id c (pre ++ x :: post) = some (post.foldl (addL id) (life0 x.n (clockOf c pre))) := by
  induction pre with
  | nil =>
    intro c
    show lifeGo id c (x :: post) = _
    unfold lifeGo
    rw [if_pos hx]
    rfl
  | cons y r ih =>
    intro c
    show lifeGo id c (y :: (r ++ x :: post)) = _
    unfold lifeGo
    rw [if_neg (by rw [h y (by simp)]; decide)]
    exact ih (fun z hz => h z (by simp [hz])) _
def cutEv (x : Ev) (s : ByteArray) : Ev := { x with s := s }
end Go.Proofs.YtdmdohjdmnmabaaGreat
