/- Parts of a chain of lemmas: ProgP, ShwP, BldL, OpenEv2. Conditions: those of each theorem. -/
import Derived.Test.YtdmdohjdmnmabaaGreatDoorQh06
import Derived.Lib.ItoaNum
import Derived.Test.YtdmdohjdmnmabaaGreatDoorQh05
import Derived.Test.YtdmdohjdmnmabaaGreatDoorQh04
namespace Go.Proofs.YtdmdohjdmnmabaaGreatDoor
set_option linter.unusedVariables false

/-- an arm: a pattern, and the op that comes -/
structure ArmM where
 pat : ByteArray
 «to» : Int
/-- an op -/
structure OpM where
 kind : Int
 text : ByteArray
 n : Int
 «to» : Int
 arms : List ArmM
 onT : Int
 onE : Int
/-- a script -/
structure ProgM where
 name : ByteArray
 deadline : Int
 jumps : Int
 ops : List OpM

def okC (c : UInt8) : Bool := (decide (97 ≤ c.toNat) && decide (c.toNat ≤ 122)) || (decide (48 ≤ c.toNat) && decide (c.toNat ≤ 57))
/-- whether a text is a name -/
def nameL (l : List UInt8) : Bool := decide (l ≠ []) && decide (l.length ≤ 16) && decide (97 ≤ (l.getD 0 0).toNat) && l.all okC
def nameB (s : ByteArray) : Bool := nameL s.data.toList
/-- whether an op comes -/
def comesB (k : Nat) (t : Int) : Bool := decide (0 ≤ t) && decide (t ≤ k)
/-- whether an op has nothing but what its kind has -/
def bareB (o : OpM) : Bool := (decide (o.kind = 1) || decide (o.text.size = 0)) && (decide (o.kind = 2) || decide (o.kind = 4) || decide (o.n = 0)) && (decide (o.kind = 3) || decide (o.to = 0)) &&
 (decide (o.kind = 2) || (decide (o.arms.length = 0) && decide (o.onT = 0) && decide (o.onE = 0)))
def patE (s : ByteArray) : Int := ((checkS s.data.toList).2 : Nat)
def armE (k : Nat) (a : ArmM) : Int := if 64 < a.pat.size then 4 else if patE a.pat ≠ 0 then patE a.pat else if comesB k a.to = true then 0 else 13
/-- the first that is not 0 -/
def firstE : List Int → Int
 | [] => 0
 | e :: r => if e ≠ 0 then e else firstE r
def tickB (least n : Int) : Bool := decide (least ≤ n) && decide (n ≤ 1000000000000)
def nevB (n : Int) : Bool := decide (n = 9223372036854775807)
def toB (k : Nat) (t : Int) : Bool := decide (t = -1) || comesB k t
def expectE (k : Nat) (o : OpM) : Int := if (nevB o.n || tickB 0 o.n) = false then 12 else if 8 < o.arms.length then 4 else if firstE (o.arms.map (armE k)) ≠ 0 then firstE (o.arms.map (armE k))
 else if (toB k o.onT && toB k o.onE) = true then 0 else 13
/-- what is wrong of an op -/
def opE (k : Nat) (o : OpM) : Int := if o.kind < 1 ∨ 6 < o.kind then 11 else if bareB o = false then 2 else if o.kind = 1 then (if o.text.size = 0 then 9 else if 256 < o.text.size then 4 else 0)
 else if o.kind = 2 then expectE k o else if o.kind = 3 then (if comesB k o.to = true then 0 else 13) else if o.kind = 4 then (if tickB 0 o.n = true then 0 else 12) else 0
/-- the place of the first that is not 0, and it -/
def firstAt : Nat → List Int → Int × Int
 | _, [] => (0, 0)
 | i, e :: r => if e ≠ 0 then (i, e) else firstAt (i + 1) r
def headE (p : ProgM) : Int := if nameB p.name = false then 10 else if ((nevB p.deadline || tickB 1 p.deadline) && decide (0 ≤ p.jumps) && decide (p.jumps ≤ 1000)) = false then 12 else if 200 < p.ops.length then 4 else 0
/-- what is wrong of a script, and where -/
def wrongM (p : ProgM) : Int × Int := if headE p ≠ 0 then (-1, headE p) else firstAt 0 (p.ops.map (opE p.ops.length))
def goodM (p : ProgM) : Bool := decide ((wrongM p).2 = 0)

theorem firstE_take {l : List Int} {k : Nat} (h : ∀ j, j < k → l.getD j 0 = 0) (hk : k < l.length) (hn : l.getD k 0 ≠ 0) : firstE l = l.getD k 0 := by
 induction l generalizing k with
 | nil => simp at hk
 | cons e r ih =>
  cases k with
  | zero => simp at hn; simp [firstE, hn]
  | succ k =>
   have h0 := h 0 (by omega)
   simp at h0
   subst h0
   simp [firstE]
   simp at hk hn
   exact ih (fun j hj => by have := h (j + 1) (by omega); simpa using this) hk (by simpa using hn)
theorem firstE_zero {l : List Int} (h : ∀ j, j < l.length → l.getD j 0 = 0) : firstE l = 0 := by
 induction l with
 | nil => rfl
 | cons e r ih =>
  have h0 := h 0 (by simp)
  simp at h0
  subst h0
  simp [firstE]
  exact ih (fun j hj => by have := h (j + 1) (by simp; omega); simpa using this)
theorem firstAt_take {l : List Int} {i k : Nat} (h : ∀ j, j < k → l.getD j 0 = 0) (hk : k < l.length) (hn : l.getD k 0 ≠ 0) : firstAt i l = (((i + k : Nat) : Int), l.getD k 0) := by
 induction l generalizing k i with
 | nil => simp at hk
 | cons e r ih =>
  cases k with
  | zero => simp at hn; simp [firstAt, hn]
  | succ k =>
   have h0 := h 0 (by omega)
   simp at h0
   subst h0
   simp at hk hn
   have := ih (i := i + 1) (k := k) (fun j hj => by have := h (j + 1) (by omega); simpa using this) hk (by simpa using hn)
   simp [firstAt]
   rw [this]
   simp
   omega
theorem firstAt_zero {l : List Int} {i : Nat} (h : ∀ j, j < l.length → l.getD j 0 = 0) : firstAt i l = (0, 0) := by
 induction l generalizing i with
 | nil => rfl
 | cons e r ih =>
  have h0 := h 0 (by simp)
  simp at h0
  subst h0
  simp [firstAt]
  exact ih (fun j hj => by have := h (j + 1) (by simp; omega); simpa using this)
end Go.Proofs.YtdmdohjdmnmabaaGreatDoor
namespace Go.Proofs.YtdmdohjdmnmabaaGreatDoor
set_option linter.unusedVariables false
set_option linter.unusedSimpArgs false

def hexD (d : Nat) : UInt8 := if d < 10 then UInt8.ofNat (48 + d) else UInt8.ofNat (87 + d)
/-- a byte's sign -/
def signT (b : UInt8) : List UInt8 := if b = 34 ∨ b = 92 then [92, b] else if b = 10 then [92, 110] else if b = 13 then [92, 114] else if b = 9 then [92, 116] else if b < 32 ∨ 126 < b then [92, 120, hexD (b.toNat / 16), hexD (b.toNat % 16)] else [b]
def signsT (l : List UInt8) : List UInt8 := l.flatMap signT
/-- a text in quotes -/
def quoteT (l : List UInt8) : List UInt8 := 34 :: (signsT l ++ [34])
theorem signs_succ (l : List UInt8) (k : Nat) (h : k < l.length) : signsT (l.take (k + 1)) = signsT (l.take k) ++ signT l[k] := by
 unfold signsT
 rw [List.take_succ_eq_append_getElem h, List.flatMap_append]
 simp
theorem sign_len (b : UInt8) : 1 ≤ (signT b).length ∧ (signT b).length ≤ 4 := by
 unfold signT
 split
 ·simp
 split
 ·simp
 split
 ·simp
 split
 ·simp
 split <;> simp
theorem signs_len (l : List UInt8) : (signsT l).length ≤ 4 * l.length := by
 induction l with
 | nil => simp [signsT]
 | cons a r ih =>
  have := (sign_len a).2
  unfold signsT at ih ⊢
  rw [List.flatMap_cons, List.length_append, List.length_cons]
  omega
theorem quote_len (l : List UInt8) : (quoteT l).length ≤ 4 * l.length + 2 := by
 have := signs_len l
 unfold quoteT
 simp
 omega
def nnT (n : Int) : Int := if n < 0 then 0 else n
/-- an op's label -/
def labelT (n : Int) : List UInt8 := 108 :: Lib.itoa (nnT n)
def wordT (k : Int) : List UInt8 := if k = 1 then [115, 101, 110, 100] else if k = 2 then [101, 120, 112, 101, 99, 116] else if k = 3 then [103, 111, 116, 111] else if k = 4 then [112, 97, 117, 115, 101] else if k = 5 then [100, 111, 110, 101] else if k = 6 then [102, 97, 105, 108] else []
def tkT (t : Int) : List UInt8 := if t = 9223372036854775807 then [110, 101, 118, 101, 114] else Lib.itoa (nnT t)
/-- words as a line -/
def wordsT : List (List UInt8) → List UInt8
 | [] => []
 | w :: r => w ++ r.flatMap (fun x => 32 :: x)
def lineT (ws : List (List UInt8)) : List UInt8 := wordsT ws ++ [10]
theorem words_succ (w : List UInt8) (r : List (List UInt8)) (k : Nat) (h : k < r.length) : wordsT (w :: r.take (k + 1)) = wordsT (w :: r.take k) ++ 32 :: r[k] := by
 rw [List.take_succ_eq_append_getElem h]
 show w ++ List.flatMap _ _ = w ++ List.flatMap _ _ ++ _
 rw [List.flatMap_append]
 simp
/-- the lines of an op, by the program -/
def armT (a : ArmM) : List UInt8 := lineT [[111, 110], quoteT a.pat.data.toList, labelT a.to]
def expectT (o : OpM) : List UInt8 := lineT [wordT o.kind, tkT o.n] ++ o.arms.flatMap armT ++ (if 0 ≤ o.onT then lineT [[116, 105, 109, 101, 111, 117, 116], labelT o.onT] else []) ++ (if 0 ≤ o.onE then lineT [[101, 111, 102], labelT o.onE] else [])
def opT (o : OpM) : List UInt8 := if o.kind = 1 then lineT [wordT o.kind, quoteT o.text.data.toList] else if o.kind = 2 then expectT o else if o.kind = 3 then lineT [wordT o.kind, labelT o.to] else if o.kind = 4 then lineT [wordT o.kind, tkT o.n] else lineT [wordT o.kind]
/-- the lines of an op, by the document -/
def opD (o : OpM) : List UInt8 := (wordT o.kind ++ (if o.kind = 1 then 32 :: quoteT o.text.data.toList else []) ++ (if o.kind = 2 ∨ o.kind = 4 then 32 :: tkT o.n else []) ++ (if o.kind = 3 then 32 :: labelT o.to else []) ++ [10]) ++ o.arms.flatMap armT ++
 (if o.kind = 2 ∧ o.onT ≠ -1 then lineT [[116, 105, 109, 101, 111, 117, 116], labelT o.onT] else []) ++ (if o.kind = 2 ∧ o.onE ≠ -1 then lineT [[101, 111, 102], labelT o.onE] else [])
theorem toB_nn {k : Nat} {t : Int} (h : toB k t = true) : t ≠ -1 ↔ 0 ≤ t := by
 unfold toB comesB at h
 simp at h
 omega
theorem expectE_to {k : Nat} {o : OpM} (h : expectE k o = 0) : toB k o.onT = true ∧ toB k o.onE = true := by
 unfold expectE at h
 split at h
 ·simp at h
 split at h
 ·simp at h
 split at h
 ·rename_i h1; exact absurd h h1
 split at h
 ·rename_i h1; simpa using h1
 ·simp at h
/-- of an op that may be both are the same -/
theorem opT_doc {k : Nat} {o : OpM} (h : opE k o = 0) : opT o = opD o := by
 unfold opE at h
 split at h
 ·simp at h
 rename_i h0
 split at h
 ·simp at h
 rename_i hb
 have hb' : bareB o = true := by simpa using hb
 have harm : o.kind ≠ 2 → o.arms = [] := by
  intro h2
  unfold bareB at hb'
  simp [h2] at hb'
  exact hb'.2.1.1
 unfold opT opD lineT wordsT
 by_cases h1 : o.kind = 1
 ·simp [h1, harm (by omega)]
 by_cases h2 : o.kind = 2
 ·rw [if_neg (by omega), if_pos h2] at h
  obtain ⟨ht, he⟩ := expectE_to h
  unfold expectT lineT wordsT
  simp only [h2, toB_nn ht, toB_nn he]
  simp
 by_cases h3 : o.kind = 3
 ·simp [h1, h2, h3, harm h2]
 by_cases h4 : o.kind = 4
 ·simp [h1, h2, h3, h4, harm h2]
 ·simp [h1, h2, h3, h4, harm h2]
end Go.Proofs.YtdmdohjdmnmabaaGreatDoor
namespace Go.Proofs.YtdmdohjdmnmabaaGreatDoor
open Go.RowKit
set_option linter.unusedVariables false

def BlAt (B b : Nat) (l : List UInt8) (w : World) : Prop := BldAt B b ⟨l.toArray⟩ w
/-- behind a call that writes to it -/
def Bo (B b : Nat) (l : List UInt8) (w w' : World) : Prop := BlAt B b l w' ∧ Below B w w' ∧ Kep b w w'
theorem Bo.refl {B b : Nat} {l : List UInt8} {w : World} (h : BlAt B b l w) : Bo B b l w w := ⟨h, Below.refl _ _, Lib.OthersKept.refl _ _ _⟩
theorem Bo.trans {B b : Nat} {l l' : List UInt8} {w w' w2 : World} (h : Bo B b l w w') (k : Bo B b l' w' w2) : Bo B b l' w w2 := ⟨k.1, h.2.1.trans k.2.1, h.2.2.trans k.2.2⟩
theorem BlAt.le {B b : Nat} {l : List UInt8} {w : World} (h : BlAt B b l w) : B ≤ w.heap.size := by
 have h2 := BldAt.lt h
 have h1 : B ≤ b := by
  rcases h with ⟨h, _⟩ | ⟨h, _⟩ <;> exact h
 omega
theorem WS_c (B b : Nat) (l t : List UInt8) (s : ByteArray) (w : World) (h : BlAt B b l w) (hs : s = ⟨t.toArray⟩) (hlen : l.length + t.length ≤ 140737488355328) :
 Calls Tryz.prog 52 #[.pointer (some ⟨b, 0, none⟩), .string s] w fun e w' => e = .returned (.tuple #[.int .i64 t.length, .nilIface]) ∧ Bo B b (l ++ t) w w' := by
 subst hs
 refine (Tryz.Builder_WriteString_k B b (Lib.byteCells l) ⟨t.toArray⟩ w h (by rw [Lib.byteCells_length]; exact hlen) h.le).mono ?_
 rintro e w' ⟨rfl, h1, h2, h3⟩
 refine ⟨rfl, Or.inr ?_, h2, h3⟩
 show Lib.BuilderAtF _ _ _ _ _ (Lib.byteCells _) _
 rw [Lib.byteCells_append]
 exact h1
theorem WB_c (B b : Nat) (l : List UInt8) (c : UInt8) (n : Int) (w : World) (h : BlAt B b l w) (hn : n = c.toNat) (hlen : l.length + 1 ≤ 140737488355328) :
 Calls Tryz.prog 51 #[.pointer (some ⟨b, 0, none⟩), .int .u8 n] w fun e w' => e = .returned .nilIface ∧ Bo B b (l ++ [c]) w w' := by
 subst hn
 refine (Tryz.Builder_WriteByte_k B b (Lib.byteCells l) c.toNat w h (by rw [Lib.byteCells_length]; exact hlen) h.le).mono ?_
 rintro e w' ⟨rfl, h1, h2, h3⟩
 refine ⟨rfl, Or.inr ?_, h2, h3⟩
 show Lib.BuilderAtF _ _ _ _ _ (Lib.byteCells _) _
 rw [Lib.byteCells_append]
 exact h1
theorem Out_c (B b : Nat) (l : List UInt8) (w : World) (h : BlAt B b l w) :
 Calls Tryz.prog 32 #[.pointer (some ⟨b, 0, none⟩)] w fun e w' => e = .returned (.string ⟨l.toArray⟩) ∧ Below B w w' ∧ Kep b w w' := by
 refine (Tryz.Builder_String_any_k B b l w h h.le).mono ?_
 rintro e w' ⟨rfl, h1, h2, h3⟩
 exact ⟨rfl, h2, h3⟩
end Go.Proofs.YtdmdohjdmnmabaaGreatDoor
namespace Go.Proofs.YtdmdohjdmnmabaaGreatDoor
open Go.ChangeShapes Go.WideShapes Go.ChangeAt Go.RowKit Go.Deep
/-- a number of 64 bits -/
def I64 (n : Int) : Prop := -9223372036854775808 ≤ n ∧ n ≤ 9223372036854775807
theorem I64.of_wf {n : Int} (h : (Lit.int .i64 n).wf = true) : I64 n := by
 simp only [Lit.wf, Bool.and_eq_true, decide_eq_true_eq] at h
 have h1 : (-9223372036854775808 : Int) ≤ n := h.1
 have h2 : n ≤ 9223372036854775807 := h.2
 exact ⟨h1, h2⟩
structure StpOk (x : Stp) : Prop where
 tick : I64 x.tick
 at_ : I64 x.at_
 what : I64 x.what
 arm : I64 x.arm
 n : I64 x.n
 status : I64 x.status
structure EvOk (x : Ev) : Prop where
 k : I64 x.k
 id : I64 x.id
 n : I64 x.n
 tick : I64 x.tick
 err : I64 x.err
 st : StpOk x.st
section
variable {H : Type} {enc : TypeId × Value → H} {P : Program} {w : World}
theorem all_ints_wf {t : TypeId} {fs : Array Field} {fuel : Nat} {cs : List Value} {x : DataW H × List MemPlace} {base : Nat} {spare : Nat → Bool} {held : Bool} (hs : P.underlying t = some (.struct fs)) (hone : oneCellFields P fs = true) (hC : P.cellsOf t = fs.size)
 (hi : ∀ (j : Nat) (f : Field), fs[j]? = some f → P.underlying f.type = some (.int .i64)) (h : DataW.trod enc P w base spare held fuel t cs = some x) :
 cs.length = fs.size ∧ ∀ j, j < fs.size → ∃ n, cs[j]? = some (.int .i64 n) ∧ I64 n := by
 obtain ⟨hl, hf⟩ := struct_cells hs hone hC h
 refine ⟨hl, fun j hj => ?_⟩
 have hfj : fs[j]? = some (fs[j]'hj) := Array.getElem?_eq_getElem hj
 obtain ⟨v, y, n, hv, ht⟩ := hf j _ hfj
 obtain ⟨k, hc, _, hw⟩ := DataW.trod_int (hi j _ hfj) ht
 injection hc with hc _
 subst hc
 exact ⟨k, hv, I64.of_wf hw⟩
end
end Go.Proofs.YtdmdohjdmnmabaaGreatDoor
