/- Parts of a chain of lemmas: Cut, Few, Sort31, TxtA, ParM, DocP. Conditions: those of each theorem. -/
import Derived.Test.YtaioaojfdngfdaaGreatDoorPl02
import Derived.BigRegion
import Derived.RegionTactic
import Derived.BigQuiet
import Derived.Deep.QuietTactic
import Derived.Deep.RegionHeld3
import Derived.Deep.DeepCutAuto
import Derived.Deep.CutBlock
import Derived.Ground.NamesProg
import Derived.Ground.Names2Prog
import Derived.Shelf.Sort.Plain
import Derived.Shelf.Slices.CompactI
import Derived.Lib.SortBridge
import Derived.Lib.ItoaNum
import Derived.WalkSmall
set_option linter.unusedVariables false
set_option linter.unusedSimpArgs false
namespace Go.Proofs.YtaioaojfdngfdaaGreatDoor
open Go.RowKit
theorem below_drewN (w : World) (n : Nat) : Below w.heap.size w (w.drewN n) := ⟨rfl, rfl, rfl, Nat.le_refl _, fun _ _ => rfl⟩
theorem below_alloc (w : World) (o : Obj) : Below w.heap.size w (w.alloc o) := (Below.refl _ _).alloc (Nat.le_refl _) _
section
variable {w : World} {M : Nat → Prop} {A : Option Addr} {l : List Ev}
end
theorem bkeepL {B : Nat} {w0 w1 : World} {b o : Nat} {v : Value} (h : Below B w0 w1) (hb : b < B) (hc : w0.cell? ⟨b, o, none⟩ = some v) : w1.cell? ⟨b, o, none⟩ = some v :=
 (h.cell (p := ⟨b, o, none⟩) hb).trans hc
end Go.Proofs.YtaioaojfdngfdaaGreatDoor
namespace Go.Proofs.YtaioaojfdngfdaaGreatDoor
open Go.RowKit Go.Shelf Go.Sort
end Go.Proofs.YtaioaojfdngfdaaGreatDoor
namespace Go.Proofs.YtaioaojfdngfdaaGreatDoor
open Go.RowKit
/-- the bytes of a text -/
abbrev bs (l : List UInt8) : ByteArray := ⟨l.toArray⟩
theorem bs_append (a b : List UInt8) : bs a ++ bs b = bs (a ++ b) := by
 apply ByteArray.ext
 simp [ByteArray.data_append]
theorem bs_size (a : List UInt8) : (bs a).size = a.length := by simp [ByteArray.size]
end Go.Proofs.YtaioaojfdngfdaaGreatDoor
namespace Go.Proofs.YtaioaojfdngfdaaGreatDoor
open Go.RowKit
end Go.Proofs.YtaioaojfdngfdaaGreatDoor
namespace Go.Proofs.YtaioaojfdngfdaaGreatDoor
open Go.RowKit
end Go.Proofs.YtaioaojfdngfdaaGreatDoor
namespace Go.Proofs.YtaioaojfdngfdaaGreatDoor
open Go.RowKit Go.Sort
abbrev stV : Array Value := #[.string ⟨#[114, 117, 110]⟩, .string ⟨#[100, 111, 110, 101]⟩, .string ⟨#[102, 97, 105, 108, 101, 100]⟩, .string ⟨#[100, 101, 97, 100, 108, 105, 110, 101]⟩, .string ⟨#[111, 118, 101, 114, 102, 108, 111, 119]⟩, .string ⟨#[100, 114, 97, 105, 110, 101, 100]⟩]
end Go.Proofs.YtaioaojfdngfdaaGreatDoor
namespace Go.Proofs.YtaioaojfdngfdaaGreatDoor
/-- what has been read -/
structure PM where
 name : ByteArray
 dl : Int
 jm : Int
 ops : List OpM
 labels : List (List UInt8 × Int)
 uses : List UseM
 head : Bool
 opn : Bool
 t0 : Bool
 t1 : Bool
 line : Int
 ws : List WordM
 width : Int
 st : St
def kScript : List UInt8 := [115, 99, 114, 105, 112, 116]
def kSend : List UInt8 := [115, 101, 110, 100]
def kExpect : List UInt8 := [101, 120, 112, 101, 99, 116]
def kOn : List UInt8 := [111, 110]
def kTimeout : List UInt8 := [116, 105, 109, 101, 111, 117, 116]
def kEof : List UInt8 := [101, 111, 102]
def kGoto : List UInt8 := [103, 111, 116, 111]
def kPause : List UInt8 := [112, 97, 117, 115, 101]
def kDone : List UInt8 := [100, 111, 110, 101]
def kFail : List UInt8 := [102, 97, 105, 108]
def kLabel : List UInt8 := [108, 97, 98, 101, 108]
def isArm (t : List UInt8) : Bool := decide (t = kOn) || (decide (t = kTimeout) || decide (t = kEof))
def isOp (t : List UInt8) : Bool := decide (t = kSend) || (decide (t = kExpect) || (decide (t = kGoto) || (decide (t = kPause) || (decide (t = kDone) || (decide (t = kFail) || decide (t = kLabel))))))
def mFail (m : PM) (col e : Int) : PM := { m with st := failS m.line m.st col e }
def mName (m : PM) : WordM × St := nameS m.line m.width m.ws m.st
def mTicks (m : PM) (least : Int) (ever : Bool) : Int × St := ticksS m.line m.width m.ws m.st least ever
def mText (m : PM) : List UInt8 × St := textS m.line m.width m.ws m.st
def mPat (m : PM) : List UInt8 × St := patternS m.line m.width m.ws m.st
def mLabel (m : PM) (how : Int) : PM := { m with st := (mName m).2, uses := m.uses ++ [⟨(mName m).1.text, m.line, ((mName m).1.at_ : Nat) + 1, (m.ops.length : Nat) - 1, how⟩] }
/-- an op put behind all others -/
def mOp (m : PM) (o : OpM) : PM := { m with ops := m.ops ++ [o], st := if 200 ≤ m.ops.length then failS m.line m.st 0 4 else m.st }
def oKind (k : Int) : OpM := ⟨k, ⟨#[]⟩, 0, 0, [], 0, 0⟩
def mLast (m : PM) (o : OpM) (s : St) : PM := { m with ops := m.ops.set (m.ops.length - 1) o, st := s }
/-- the head -/
def mName1 (m : PM) : PM := { m with head := true, name := bs (mName m).1.text, st := (mName m).2 }
def mDl (m : PM) : PM := { m with dl := (mTicks m 1 true).1, st := (mTicks m 1 true).2 }
def mJumps (m : PM) : PM := if (wordS m.line m.width m.ws m.st false).1.2 = true then { m with jm := (numS m.line (wordS m.line m.width m.ws m.st false).2 (wordS m.line m.width m.ws m.st false).1.1 0 1000).1, st := (numS m.line (wordS m.line m.width m.ws m.st false).2 (wordS m.line m.width m.ws m.st false).1.1 0 1000).2 } else { m with st := (wordS m.line m.width m.ws m.st false).2 }
def mBegin (m : PM) : PM := mJumps (mDl (mName1 m))
/-- an arm -/
def op0 : OpM := oKind 0
def lastOp (m : PM) : OpM := m.ops.getD (m.ops.length - 1) op0
def addArm (o : OpM) (t : List UInt8) : OpM := { o with arms := o.arms ++ [⟨bs t, 0⟩] }
def mOn (m : PM) : PM := mLabel (mLast m (addArm (lastOp m) (mPat m).1) (mPat m).2) (lastOp m).arms.length
def mTw0 (m : PM) : PM := { m with t0 := true, st := if m.t0 = true then failS m.line m.st 0 6 else m.st }
def mTw1 (m : PM) : PM := { m with t1 := true, st := if m.t1 = true then failS m.line m.st 0 6 else m.st }
def mArm (m : PM) (t : List UInt8) : PM :=
 if m.opn = false then mFail m 0 8
 else if t = kOn then (if 8 ≤ (lastOp m).arms.length then mFail m 0 4 else mOn m)
 else if t = kEof then mLabel (mTw1 m) (-3) else mLabel (mTw0 m) (-2)
/-- an op, or a label -/
def mShut (m : PM) : PM := { m with opn := false }
def mSend (m : PM) : PM := mLast (mOp m (oKind 1)) { oKind 1 with text := bs (mText (mOp m (oKind 1))).1 } (mText (mOp m (oKind 1))).2
def oExpect : OpM := { oKind 2 with onT := -1, onE := -1 }
def mExpect (m : PM) : PM := { mLast (mOp m oExpect) { oExpect with n := (mTicks (mOp m oExpect) 0 true).1 } (mTicks (mOp m oExpect) 0 true).2 with opn := true, t0 := false, t1 := false }
def mPause (m : PM) : PM := mLast (mOp m (oKind 4)) { oKind 4 with n := (mTicks (mOp m (oKind 4)) 0 false).1 } (mTicks (mOp m (oKind 4)) 0 false).2
def mLab (m : PM) : PM := { m with labels := ((mName m).1.text, ((m.ops.length : Nat) : Int)) :: m.labels, st := if (lbF (mName m).1.text m.labels).isSome = true then failS m.line (mName m).2 (mName m).1.at_ 6 else (mName m).2 }
def mOps (m : PM) (t : List UInt8) : PM :=
 if t = kSend then mSend (mShut m) else if t = kExpect then mExpect (mShut m) else if t = kGoto then mLabel (mOp (mShut m) (oKind 3)) (-1) else if t = kPause then mPause (mShut m)
 else if t = kDone then mOp (mShut m) (oKind 5) else if t = kFail then mOp (mShut m) (oKind 6) else if t = kLabel then mLab (mShut m) else mShut m
/-- a line that says something -/
def mNext (m : PM) : PM := { m with st := ⟨m.st.nx + 1, m.st.sl, m.st.sc, m.st.bad⟩ }
def sayW (m : PM) : WordM := wsAt m.ws m.st.nx
def knownB (m : PM) : Bool := !(sayW m).quoted && (if (sayW m).text = kScript then !m.head else if (isArm (sayW m).text || isOp (sayW m).text) = true then m.head else false)
def mSay1 (m : PM) (t : List UInt8) : PM := if t = kScript then mBegin m else if isArm t = true then mArm m t else mOps m t
def mRest (m : PM) : PM := if m.st.bad = 0 ∧ m.st.nx < m.ws.length then mFail m (wsAt m.ws m.st.nx).at_ 2 else m
def mSay (m : PM) : PM := if knownB m = false then mFail (mNext m) 0 11 else mRest (mSay1 (mNext m) (sayW m).text)
/-- a line -/
def mLine (m : PM) (i : Nat) (s : List UInt8) : PM := { m with line := (i : Nat) + 1, ws := (wordsM s).1, width := s.length, st := ⟨0, m.st.sl, m.st.sc, m.st.bad⟩ }
def mOne (m : PM) (i : Nat) (s : List UInt8) : PM := if idleB s = true then m else if (wordsM s).2.2 ≠ 0 then mFail (mLine m i s) (wordsM s).2.1 (wordsM s).2.2 else mSay (mLine m i s)
/-- the lines, till one is wrong -/
def mGo (l : List (List UInt8)) : Nat → Nat → PM → PM
 | 0, _, m => m
 | f + 1, i, m => if m.st.bad ≠ 0 then m else mGo l f (i + 1) (mOne m i (l.getD i []))
def m0 : PM := ⟨⟨#[]⟩, 0, 0, [], [], [], false, false, false, false, 0, [], 0, ⟨0, 0, 0, 0⟩⟩
/-- a use with its label's op put in -/
def setUse (ops : List OpM) (u : UseM) (to_ : Int) : List OpM :=
 ops.set u.op.toNat (if u.how = -1 then { ops.getD u.op.toNat op0 with «to» := to_ } else if u.how = -2 then { ops.getD u.op.toNat op0 with onT := to_ } else if u.how = -3 then { ops.getD u.op.toNat op0 with onE := to_ }
  else { ops.getD u.op.toNat op0 with arms := (ops.getD u.op.toNat op0).arms.set u.how.toNat ⟨((ops.getD u.op.toNat op0).arms.getD u.how.toNat ⟨⟨#[]⟩, 0⟩).pat, to_⟩ })
/-- the uses, till one has no label -/
def mRes (ls : List (List UInt8 × Int)) : List UseM → List OpM → List OpM × Option UseM
 | [], ops => (ops, none)
 | u :: r, ops => match lbF u.name ls with
  | none => (ops, some u)
  | some t => mRes ls r (setUse ops u t)
/-- the script of a text; where, and what is wrong -/
def noProg : ProgM := ⟨⟨#[]⟩, 0, 0, []⟩
def endP (m : PM) : ProgM × (Int × Int) × Int :=
 if m.st.bad ≠ 0 then (noProg, (m.st.sl, m.st.sc), m.st.bad)
 else if m.head = false then (noProg, (1, 1), 3)
 else match mRes m.labels m.uses m.ops with
  | (ops, none) => (⟨m.name, m.dl, m.jm, ops⟩, (0, 0), 0)
  | (ops, some u) => (noProg, (u.line, u.col), 13)
def parseM (s : List UInt8) : ProgM × (Int × Int) × Int := endP (mGo (linesM s) (linesM s).length 0 m0)
end Go.Proofs.YtaioaojfdngfdaaGreatDoor
namespace Go.Proofs.YtaioaojfdngfdaaGreatDoor
/-- what has been read -/
structure DM where
 name : ByteArray
 dl : Int
 jm : Int
 ops : List OpM
 labels : List (List UInt8 × Int)
 uses : List UseM
 head : Bool
 opn : Bool
 tm : Bool
 ef : Bool
def findD (k : List UInt8) : List (List UInt8 × Int) → Int
 | [] => -1
 | (n, v) :: r => if n = k then v else findD k r
def lookD (t : List UInt8) : List (List UInt8 × List UInt8) → List UInt8 × Bool
 | [] => ([], false)
 | (k, s) :: r => if k = t then (s, true) else lookD t r
def shapesD : List (List UInt8 × List UInt8) := [(kScript, [110, 100, 106]), (kSend, [113]), (kExpect, [101]), (kOn, [112, 108]), (kTimeout, [108]), (kEof, [108]), (kGoto, [108]), (kPause, [116]), (kDone, []), (kFail, []), (kLabel, [110])]
/-- what stands behind a word -/
def shapeD (t : List UInt8) : List UInt8 × Bool := lookD t shapesD
def numberD (k : UInt8) (t : List UInt8) : Int × Nat :=
 if t = neverL ∧ (k = 100 ∨ k = 101) then (9223372036854775807, 0)
 else if (numberP t (if k = 106 then 1000 else 1000000000000)).2 = 0 ∧ k = 100 ∧ (numberP t (if k = 106 then 1000 else 1000000000000)).1 = 0 then (0, 12)
 else numberP t (if k = 106 then 1000 else 1000000000000)
def wrongD (k : UInt8) (w : WordM) : Nat :=
 if w.quoted ≠ (decide (k = 113) || decide (k = 112)) then 2
 else if (k = 110 ∨ k = 108) ∧ nameL w.text = false then 10
 else if k = 113 ∧ w.text.length = 0 then 9
 else if (k = 113 ∧ 256 < w.text.length) ∨ (k = 112 ∧ 64 < w.text.length) then 4
 else if k = 112 then (checkS w.text).2
 else if k = 100 ∨ k = 101 ∨ k = 116 ∨ k = 106 then (numberD k w.text).2
 else 0
def lastD (d : DM) : OpM := d.ops.getD (d.ops.length - 1) op0
def placeD (d : DM) (w : WordM) : Nat :=
 if w.quoted = true ∨ (shapeD w.text).2 = false ∨ decide (w.text = kScript) = d.head then 11
 else if isArm w.text = true then
  (if d.opn = false then 8 else if w.text = kOn ∧ 7 < (lastD d).arms.length then 4 else if (w.text = kTimeout ∧ d.tm = true) ∨ (w.text = kEof ∧ d.ef = true) then 6 else 0)
 else if w.text ≠ kScript ∧ w.text ≠ kLabel ∧ 199 < d.ops.length then 4 else 0
def indexD (t : List UInt8) : List (List UInt8) → Nat → Nat
 | [], _ => 0
 | k :: r, i => if k = t then i + 1 else indexD t r (i + 1)
/-- an op's kind, by its word -/
def kindD (t : List UInt8) : Nat := indexD t [kSend, kExpect, kGoto, kPause, kDone, kFail] 0
def opDoc (l : List WordM) : OpM :=
 ⟨(kindD (wsAt l 0).text : Nat), if kindD (wsAt l 0).text = 1 then bs (wsAt l 1).text else ⟨#[]⟩, if kindD (wsAt l 0).text = 2 then (numberD 101 (wsAt l 1).text).1 else if kindD (wsAt l 0).text = 4 then (numberD 116 (wsAt l 1).text).1 else 0, 0, [],
  if kindD (wsAt l 0).text = 2 then -1 else 0, if kindD (wsAt l 0).text = 2 then -1 else 0⟩
def dOp (d : DM) (l : List WordM) : DM := if 0 < kindD (wsAt l 0).text then { d with ops := d.ops ++ [opDoc l], opn := decide (kindD (wsAt l 0).text = 2), tm := false, ef := false } else d
def useD (d : DM) (l : List WordM) (line how : Int) : DM := { d with uses := d.uses ++ [⟨(wsAt l (l.length - 1)).text, line, ((wsAt l (l.length - 1)).at_ : Nat) + 1, (d.ops.length : Nat) - 1, how⟩] }
def dRest (d : DM) (l : List WordM) (line : Int) : DM :=
 if (wsAt l 0).text = kScript then { d with head := true, name := bs (wsAt l 1).text, dl := (numberD 100 (wsAt l 2).text).1, jm := (numberD 106 (wsAt l 3).text).1 }
 else if (wsAt l 0).text = kLabel then { d with labels := d.labels ++ [((wsAt l 1).text, ((d.ops.length : Nat) : Int))], opn := false }
 else if (wsAt l 0).text = kOn then useD { d with ops := d.ops.set (d.ops.length - 1) (addArm (lastD d) (wsAt l 1).text) } l line ((lastD d).arms.length : Nat)
 else if (wsAt l 0).text = kTimeout then useD { d with tm := true } l line (-2)
 else if (wsAt l 0).text = kEof then useD { d with ef := true } l line (-3)
 else if (wsAt l 0).text = kGoto then useD d l line (-1)
 else d
def takeD (d : DM) (l : List WordM) (line : Int) : DM := dRest (dOp d l) l line
/-- what is wrong of the words behind the first -/
def formD (d : DM) (l : List WordM) (width : Nat) : List UInt8 → Nat → Nat × Nat
 | [], i => if i + 1 < l.length then ((wsAt l (i + 1)).at_, 2) else (0, 0)
 | c :: r, i => if l.length ≤ i + 1 then (width, 3) else if wrongD c (wsAt l (i + 1)) ≠ 0 then ((wsAt l (i + 1)).at_, wrongD c (wsAt l (i + 1)))
  else if (wsAt l 0).text = kLabel ∧ 0 ≤ findD (wsAt l 1).text d.labels then ((wsAt l 1).at_, 6) else formD d l width r (i + 1)
/-- a line; where, and what is wrong -/
def readE (d : DM) (s : List UInt8) : Nat × Nat :=
 if (wordsM s).2.2 ≠ 0 then ((wordsM s).2.1, (wordsM s).2.2)
 else if placeD d (wsAt (wordsM s).1 0) ≠ 0 then (0, placeD d (wsAt (wordsM s).1 0))
 else formD d (wordsM s).1 s.length (shapeD (wsAt (wordsM s).1 0).text).1 0
def dGo (l : List (List UInt8)) : Nat → Nat → DM → DM × Option (Nat × Nat × Nat)
 | 0, _, d => (d, none)
 | f + 1, i, d => if idleB (l.getD i []) = true then dGo l f (i + 1) d
  else if (readE d (l.getD i [])).2 ≠ 0 then (d, some (i, readE d (l.getD i [])))
  else dGo l f (i + 1) (takeD d (wordsM (l.getD i [])).1 ((i : Nat) + 1))
def d0 : DM := ⟨⟨#[]⟩, 0, 0, [], [], [], false, false, false, false⟩
def dRes (ls : List (List UInt8 × Int)) : List UseM → List OpM → List OpM × Option UseM
 | [], ops => (ops, none)
 | u :: r, ops => if findD u.name ls < 0 then (ops, some u) else dRes ls r (setUse ops u (findD u.name ls))
def endD (x : DM × Option (Nat × Nat × Nat)) : ProgM × (Int × Int) × Int :=
 match x.2 with
 | some (i, c, e) => (noProg, ((i : Nat) + 1, (c : Nat) + 1), e)
 | none => if x.1.head = false then (noProg, (1, 1), 3)
  else match dRes x.1.labels x.1.uses x.1.ops with
   | (ops, none) => (⟨x.1.name, x.1.dl, x.1.jm, ops⟩, (0, 0), 0)
   | (ops, some u) => (noProg, (u.line, u.col), 13)
def parseD (s : List UInt8) : ProgM × (Int × Int) × Int := endD (dGo (linesM s) (linesM s).length 0 d0)
end Go.Proofs.YtaioaojfdngfdaaGreatDoor
