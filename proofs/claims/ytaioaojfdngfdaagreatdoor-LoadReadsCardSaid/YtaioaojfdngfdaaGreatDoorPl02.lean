/- Parts of a chain of lemmas: NumP, WordP, ParP, LineP, Str, Life, Law, Open, OpenEv, OpenEv2, Shelf, App. Conditions: those of each theorem. -/
import Derived.Test.YtaioaojfdngfdaaGreatDoorPl01
import Derived.Lib.ParseIntB
import Derived.Laws.CopyOwn
import Derived.Lib.LazyBuf
import Derived.Lib.SlBytesRow
import Derived.Deep.RegionLaw
import Derived.ProofKit
import Derived.OpenShut
import Derived.SizedLaws
import Derived.Deep.Slices
import Derived.Deep.Fields
import Derived.ChangeSame
import Derived.Shelf.Strconv.Itoa0
import Derived.Shelf.Strconv.Itoa1
import Derived.Shelf.LaysM
import Derived.Shelf.Strconv.Itoa2
import Derived.Shelf.Strconv.Itoa3
import Derived.Shelf.Strconv.Itoa4
import Derived.Shelf.Sort.Plain
import Derived.Ground.Names2Prog
import Derived.Shelf.Slices.CompactI
import Derived.Shelf.Slices.SearchI
import Derived.Shelf.Slices.Turned
import Derived.Shelf.Slices.Cells
import Derived.Shelf.Slices.In.SortNone
import Derived.Maps.AppendAt
import Derived.Deep.AppendLies
set_option linter.unusedVariables false
set_option linter.unusedSimpArgs false
namespace Go.Proofs.YtaioaojfdngfdaaGreatDoor
def digB' (b : UInt8) : Bool := decide (48 ≤ b.toNat) && decide (b.toNat ≤ 57)
def valFrom : Nat → List UInt8 → Nat
 | n, [] => n
 | n, c :: r => valFrom (10 * n + (c.toNat - 48)) r
def neverL : List UInt8 := [110, 101, 118, 101, 114]
/-- the ticks of a text; what is wrong -/
def tickP (L : List UInt8) : Int × Nat :=
 if L = neverL then (9223372036854775807, 0)
 else if L.length = 0 ∨ (1 < L.length ∧ atB L 0 = 48) then (0, 2)
 else if L.all digB' = false then (0, 2)
 else if 9223372036854775807 ≤ valFrom 0 L then (0, 12)
 else ((valFrom 0 L : Nat), 0)
/-- a number that may be as great as told -/
def numberP (L : List UInt8) (most : Int) : Int × Nat :=
 if (tickP L).2 = 0 ∧ most ≠ 9223372036854775807 ∧ most < (tickP L).1 then (0, 12) else tickP L
theorem valFrom_ge : ∀ (r : List UInt8) (n : Nat), n ≤ valFrom n r
 | [], n => Nat.le_refl _
 | c :: r, n => by
  have := valFrom_ge r (10 * n + (c.toNat - 48))
  unfold valFrom
  omega
theorem valFrom_snoc : ∀ (X : List UInt8) (n : Nat) (c : UInt8), valFrom n (X ++ [c]) = 10 * valFrom n X + (c.toNat - 48)
 | [], n, c => rfl
 | a :: r, n, c => by
  show valFrom (10 * n + (a.toNat - 48)) (r ++ [c]) = _
  rw [valFrom_snoc r]
  rfl
theorem valFrom_take (L : List UInt8) (k : Nat) (h : k < L.length) : valFrom 0 (L.take (k + 1)) = 10 * valFrom 0 (L.take k) + ((atB L k).toNat - 48) := by
 have e : L[k] = atB L k := by unfold atB; simp [List.getD, h]
 rw [List.take_succ_eq_append_getElem h, valFrom_snoc, e]
theorem uintM_val : ∀ (r : List UInt8) (acc : Nat), r.all digB' = true → acc ≤ 18446744073709551615 → Lib.parseUintM 18446744073709551615 acc r = if valFrom acc r ≤ 18446744073709551615 then .ok (valFrom acc r) else .range
 | [], acc, _, h => by unfold Lib.parseUintM valFrom; rw [if_pos h]
 | c :: r, acc, h, ha => by
  rw [List.all_cons, Bool.and_eq_true] at h
  obtain ⟨h1, h2⟩ := h
  unfold digB' at h1
  simp only [Bool.and_eq_true, decide_eq_true_eq] at h1
  have hge := valFrom_ge r (10 * acc + (c.toNat - 48))
  unfold Lib.parseUintM valFrom
  rw [if_pos h1]
  split
  ·rw [if_neg (by omega)]
  split
  ·rw [if_neg (by omega)]
  ·rw [uintM_val r _ h2 (by omega), show acc * 10 + (c.toNat - 48) = 10 * acc + (c.toNat - 48) by omega]
theorem intB_val (L : List UInt8) (h : L.all digB' = true) (h0 : L ≠ []) : Lib.parseIntB 64 L = if valFrom 0 L < 9223372036854775808 then .ok ((valFrom 0 L : Nat) : Int) else .range := by
 cases L with
 | nil => exact absurd rfl h0
 | cons c r =>
  have hc := h
  rw [List.all_cons, Bool.and_eq_true] at hc
  have h1 := hc.1
  unfold digB' at h1
  simp only [Bool.and_eq_true, decide_eq_true_eq] at h1
  have e1 : (c.toNat = 43) = False := by simp; omega
  have e2 : (c.toNat = 45) = False := by simp; omega
  unfold Lib.parseIntB
  simp only [e1, e2, or_self, if_false, false_and, not_false_eq_true, true_and]
  unfold Lib.parseUintB
  rw [if_neg h0, show (2 : Nat) ^ 64 - 1 = 18446744073709551615 from rfl, uintM_val _ 0 h (by omega)]
  by_cases hv : valFrom 0 (c :: r) ≤ 18446744073709551615
  ·rw [if_pos hv]
   simp only [show (2 : Nat) ^ (64 - 1) = 9223372036854775808 from rfl]
   by_cases hw : valFrom 0 (c :: r) < 9223372036854775808
   ·rw [if_pos hw, if_neg (by omega)]
   ·rw [if_neg hw, if_pos (by omega)]
  ·rw [if_neg hv, if_neg (by omega)]
end Go.Proofs.YtaioaojfdngfdaaGreatDoor
namespace Go.Proofs.YtaioaojfdngfdaaGreatDoor
def plainB (b : UInt8) : Bool := decide (33 ≤ b.toNat) && (decide (b.toNat ≤ 126) && (decide (b ≠ 34) && decide (b ≠ 92)))
/-- with how many plain bytes a text begins -/
def bareN (L : List UInt8) : Nat := (L.takeWhile plainB).length
structure WordM where
 text : List UInt8
 quoted : Bool
 at_ : Nat
/-- the word at a place, how long it is, what is wrong -/
def wordAt (L : List UInt8) (i : Nat) : WordM × Nat × Nat :=
 if i < L.length ∧ atB L i = 34 then (⟨(qReadM (L.drop i)).1, true, i⟩, (qReadM (L.drop i)).2.1, (qReadM (L.drop i)).2.2)
 else if bareN (L.drop i) = 0 then (⟨[], false, i⟩, 0, if i = L.length then 3 else 2)
 else (⟨(L.drop i).take (bareN (L.drop i)), false, i⟩, bareN (L.drop i), 0)
def wordsGo : Nat → List UInt8 → Nat → List WordM → List WordM × Nat × Nat
 | 0, L, i, out => ([], i, 2)
 | f + 1, L, i, out => if (wordAt L i).2.2 ≠ 0 then ([], i + (wordAt L i).2.1, (wordAt L i).2.2)
  else if i + (wordAt L i).2.1 = L.length then (out ++ [(wordAt L i).1], 0, 0)
  else if atB L (i + (wordAt L i).2.1) ≠ 32 then ([], i + (wordAt L i).2.1, 2)
  else wordsGo f L (i + (wordAt L i).2.1 + 1) (out ++ [(wordAt L i).1])
/-- the words of a line; where, and what is wrong -/
def wordsM (L : List UInt8) : List WordM × Nat × Nat := if 1200 < L.length then ([], 1200, 4) else if L.length = 0 then ([], 0, 0) else wordsGo (L.length + 1) L 0 []
theorem bareN_le (L : List UInt8) : bareN L ≤ L.length := by
 unfold bareN
 exact (List.takeWhile_prefix plainB).length_le
theorem bareN_at : ∀ (L : List UInt8) (k : Nat), k ≤ L.length → (∀ j, j < k → plainB (atB L j) = true) → (k < L.length → plainB (atB L k) = false) → bareN L = k
 | [], k, hk, _, _ => by simp at hk; subst hk; rfl
 | b :: r, 0, _, _, h => by
  have h1 : plainB b = false := h (by simp)
  unfold bareN
  rw [List.takeWhile_cons, if_neg (by rw [h1]; simp)]
  rfl
 | b :: r, k + 1, hk, h, h2 => by
  have h1 : plainB b = true := h 0 (by omega)
  have h3 := bareN_at r k (by simpa using hk) (fun j hj => h (j + 1) (by omega)) (fun hj => h2 (by simpa using hj))
  unfold bareN at h3 ⊢
  rw [List.takeWhile_cons, if_pos h1, List.length_cons, h3]
theorem wordAt_le (L : List UInt8) (i : Nat) (h : i ≤ L.length) : i + (wordAt L i).2.1 ≤ L.length := by
 unfold wordAt
 split
 ·have := (qReadM_len (L.drop i)).2
  rw [List.length_drop] at this
  show i + (qReadM (L.drop i)).2.1 ≤ _
  omega
 split
 ·simpa using h
 ·have := bareN_le (L.drop i)
  rw [List.length_drop] at this
  show i + bareN (L.drop i) ≤ _
  omega
theorem wordAt_len (L : List UInt8) (i : Nat) : (wordAt L i).1.text.length ≤ L.length := by
 unfold wordAt
 split
 ·have := (qReadM_len (L.drop i)).1
  rw [List.length_drop] at this
  show (qReadM (L.drop i)).1.length ≤ _
  omega
 split
 ·simp
 ·show ((L.drop i).take _).length ≤ _
  rw [List.length_take, List.length_drop]; omega
end Go.Proofs.YtaioaojfdngfdaaGreatDoor
namespace Go.Proofs.YtaioaojfdngfdaaGreatDoor
/-- a label that is used: where, of which op, and how -/
structure UseM where
 name : List UInt8
 line : Int
 col : Int
 op : Int
 how : Int
/-- the op of a label, the last of its name -/
def lbF (k : List UInt8) : List (List UInt8 × Int) → Option Int
 | [] => none
 | (n, v) :: r => if n = k then some v else lbF k r
/-- the next word, and what is wrong -/
structure St where
 nx : Nat
 sl : Int
 sc : Int
 bad : Int
def w0 : WordM := ⟨[], false, 0⟩
def wsAt (ws : List WordM) (k : Nat) : WordM := ws.getD k w0
theorem wsAt_some {l : List WordM} {k : Nat} (hk : k < l.length) : l[k]? = some (wsAt l k) := by simp [wsAt, List.getD, hk]
theorem wsAt_mem {l : List WordM} {k : Nat} (hk : k < l.length) : wsAt l k ∈ l := List.mem_of_getElem? (wsAt_some hk)
def failS (line : Int) (s : St) (col e : Int) : St := if s.bad = 0 then ⟨s.nx, line, col + 1, e⟩ else s
def wordS (line width : Int) (ws : List WordM) (s : St) (q : Bool) : (WordM × Bool) × St :=
 if s.bad ≠ 0 then ((w0, false), s)
 else if ws.length ≤ s.nx then ((w0, false), ⟨s.nx, line, width + 1, 3⟩)
 else if (wsAt ws s.nx).quoted ≠ q then ((wsAt ws s.nx, false), ⟨s.nx + 1, line, (wsAt ws s.nx).at_ + 1, 2⟩)
 else ((wsAt ws s.nx, true), ⟨s.nx + 1, s.sl, s.sc, s.bad⟩)
def nameS (line width : Int) (ws : List WordM) (s : St) : WordM × St :=
 ((wordS line width ws s false).1.1, if (wordS line width ws s false).1.2 = true ∧ nameL (wordS line width ws s false).1.1.text = false then failS line (wordS line width ws s false).2 (wordS line width ws s false).1.1.at_ 10 else (wordS line width ws s false).2)
def numE (t : List UInt8) (least most : Int) : Int := if (numberP t most).2 = 0 ∧ (numberP t most).1 < least then 12 else (numberP t most).2
def numS (line : Int) (s : St) (x : WordM) (least most : Int) : Int × St :=
 ((numberP x.text most).1, if numE x.text least most ≠ 0 then failS line s x.at_ (numE x.text least most) else s)
def ticksS (line width : Int) (ws : List WordM) (s : St) (least : Int) (ever : Bool) : Int × St :=
 if (wordS line width ws s false).1.2 = false then (0, (wordS line width ws s false).2)
 else if ever = true ∧ (wordS line width ws s false).1.1.text = neverL then (9223372036854775807, (wordS line width ws s false).2)
 else numS line (wordS line width ws s false).2 (wordS line width ws s false).1.1 least 1000000000000
def textE (ok : Bool) (t : List UInt8) : Int := if ok = false then 0 else if t.length = 0 then 9 else if 256 < t.length then 4 else 0
def textS (line width : Int) (ws : List WordM) (s : St) : List UInt8 × St :=
 ((wordS line width ws s true).1.1.text, if textE (wordS line width ws s true).1.2 (wordS line width ws s true).1.1.text ≠ 0 then failS line (wordS line width ws s true).2 (wordS line width ws s true).1.1.at_ (textE (wordS line width ws s true).1.2 (wordS line width ws s true).1.1.text) else (wordS line width ws s true).2)
def patternS (line width : Int) (ws : List WordM) (s : St) : List UInt8 × St :=
 if (wordS line width ws s true).1.2 = false then ([], (wordS line width ws s true).2)
 else if 64 < (wordS line width ws s true).1.1.text.length then ([], failS line (wordS line width ws s true).2 (wordS line width ws s true).1.1.at_ 4)
 else ((wordS line width ws s true).1.1.text, if (checkS (wordS line width ws s true).1.1.text).2 ≠ 0 then failS line (wordS line width ws s true).2 (wordS line width ws s true).1.1.at_ (checkS (wordS line width ws s true).1.1.text).2 else (wordS line width ws s true).2)
end Go.Proofs.YtaioaojfdngfdaaGreatDoor
namespace Go.Proofs.YtaioaojfdngfdaaGreatDoor
def linesGo : List UInt8 → List UInt8 → List (List UInt8)
 | [], cur => [cur]
 | c :: r, cur => if c = 10 then cur :: linesGo r [] else linesGo r (cur ++ [c])
/-- the lines of a text -/
def linesM (L : List UInt8) : List (List UInt8) := linesGo L []
/-- whether a line says nothing -/
def idleB (L : List UInt8) : Bool := decide (L.length = 0) || decide (atB L 0 = 35)
theorem linesGo_at (L : List UInt8) (i : Nat) (cur : List UInt8) (h : i < L.length) : linesGo (L.drop i) cur = if atB L i = 10 then cur :: linesGo (L.drop (i + 1)) [] else linesGo (L.drop (i + 1)) (cur ++ [atB L i]) := by
 rw [List.drop_eq_getElem_cons h]
 have e : L[i] = atB L i := by unfold atB; simp [List.getD, h]
 rw [e]
 rfl
theorem cut_succ (L : List UInt8) (a i : Nat) (h : a ≤ i) (h2 : i < L.length) : (L.drop a).take (i + 1 - a) = (L.drop a).take (i - a) ++ [atB L i] := by
 have e : i + 1 - a = (i - a) + 1 := by omega
 have hl : i - a < (L.drop a).length := by rw [List.length_drop]; omega
 rw [e, List.take_succ_eq_append_getElem hl]
 congr 2
 unfold atB
 rw [List.getElem_drop]
 simp [List.getD, h2, show a + (i - a) = i by omega]
theorem linesGo_len (r : List UInt8) : ∀ cur, (linesGo r cur).length ≤ r.length + 1 := by
 induction r with
 | nil => intro cur; simp [linesGo]
 | cons c r ih =>
  intro cur
  unfold linesGo
  split
  ·have := ih []; simp; omega
  ·have := ih (cur ++ [c]); simp; omega
end Go.Proofs.YtaioaojfdngfdaaGreatDoor
namespace Go.Proofs.YtaioaojfdngfdaaGreatDoor
open Go.RowKit
theorem ba_ext {a b : ByteArray} (h : a.data.toList = b.data.toList) : a = b := by
 apply ByteArray.ext
 exact Array.toList_inj.1 h
theorem ba_size (a : ByteArray) : a.data.toList.length = a.size := by rw [Array.length_toList]; rfl
theorem ba_sub (s : ByteArray) (a b : Nat) : (s.extract a b).data.toList = (s.data.toList.drop a).take (b - a) := Lib.extract_data s a b
theorem ba_sub_size (s : ByteArray) (a b : Nat) (h : a ≤ b) (hb : b ≤ s.size) : (s.extract a b).size = b - a := by
 rw [← ba_size, ba_sub, List.length_take, List.length_drop, ba_size]; omega
/-- the cells of bytes -/
def bys (X : List UInt8) : List Value := X.map fun x => Value.int .u8 (x.toNat : Int)
theorem bys_len (X : List UInt8) : (bys X).length = X.length := by simp [bys]
theorem bys_at (X : List UInt8) (i : Nat) (h : i < X.length) : (bys X)[i]? = some (.int .u8 (X[i].toNat : Int)) := by simp [bys, h]
section
variable {P : Program}
end
structure Stp where
 tick : Int
 at_ : Int
 what : Int
 arm : Int
 n : Int
 status : Int
structure Ev where
 k : Int
 id : Int
 n : Int
 tick : Int
 s : ByteArray
 err : Int
 st : Stp
structure Inp where
 k : Int
 s : ByteArray
 n : Int
 tick : Int
structure LifeM where
 script : Int
 start : Int
 ins : List Inp
 steps : List Stp
 read : ByteArray
 taken : ByteArray
 eof : Bool
 status : Int
end Go.Proofs.YtaioaojfdngfdaaGreatDoor
namespace Go.Proofs.YtaioaojfdngfdaaGreatDoor
open Go.ChangeShapes Go.WideShapes Go.ChangeAt Go.RowKit
theorem Tryz.own : ownKnob Tryz.prog.godebug = none := by kernel_rfl
theorem Tryz.laidOut : laidOutB Tryz.prog = true := by kernel_rfl
section
variable {H : Type} {enc : TypeId × Value → H} {P : Program}
theorem trodAll_stays (hl : laidOutB P = true) {W W' : World} (hb : Only NoBlk W W') {sp : Nat → Bool} : ∀ (ts : List TypeId) (vs : List Value) (ds : List (DataW H)) (ps : List MemPlace),
 (∀ t ∈ ts, P.readableRec t = true ∧ t < P.types.size) → DataW.TrodAll enc P W 0 (fun _ => true) true ts vs ds ps → (∀ x ∈ ps, x.block < W.heap.size) → (∀ x ∈ ps, sp x.block = true) →
 DataW.TrodAll enc P W' 0 sp true ts vs ds ps
 | [], vs, ds, ps, _, h, _, _ => by
  obtain ⟨rfl, rfl, rfl⟩ := trodAll_nil h
  exact trodAll_mk0
 | t :: ts, vs, ds, ps, ht, h, hlt, hsp => by
  obtain ⟨v, vs', d, ds', p, q, rfl, rfl, rfl, h0, h1⟩ := trodAll_cons h
  have hsame : ∀ x ∈ p, W.sameAt W' x := fun x hx => by
   have hbx := hb.block x.block (hlt x (List.mem_append_left _ hx)) (fun hf => hf)
   cases x with
   | cell b o => exact World.cell?_of_block (w := W) hbx
   | map b => exact hbx
  exact trodAll_cons_mk (WideElems.Trod_stays hl (ht t (by simp)).1 (ht t (by simp)).2 h0 hsame (fun x hx => hsp x (List.mem_append_left _ hx)))
   (trodAll_stays hl hb ts vs' ds' q (fun t' h' => ht t' (by simp [h'])) h1 (fun x hx => hlt x (List.mem_append_right _ hx)) (fun x hx => hsp x (List.mem_append_right _ hx)))
/-- the call read its arguments alone, and answered true -/
theorem law_post {f : Func} {s : ChangeSpec} {apart fresh handsOn again : Bool} {W W' : World} {args : Array Value} {ds : List (DataW H)} {before : List MemPlace} {tb : TypeId}
 (hl : laidOutB P = true) (hts0 : (f.params.toList.all fun t => P.readableRec t && decide (t < P.types.size)) = true) (hres : f.resultTypes = #[tb]) (htb : P.underlying tb = some .bool) (hvars : s.vars = [])
 (hW : DataW.Whole enc P f.params.toList s.vars apart W args.toList ds [] before)
 (h1 : (s.fn H (ds ++ [])).results = [.lit (.bool true)]) (h2 : (s.fn H (ds ++ [])).args = ds) (h3 : (s.fn H (ds ++ [])).vars = []) (hb : Only NoBlk W W') :
 s.post enc P f apart fresh handsOn again W args (.bool true) W' := by
 have hts : ∀ t ∈ f.params.toList, P.readableRec t = true ∧ t < P.types.size := fun t ht => by
  have := List.all_eq_true.1 hts0 t ht
  simpa using this
 have hW' := hW
 obtain ⟨p, q, hA, hV, he, hfz, hnd⟩ := hW
 rw [hvars] at hV
 obtain ⟨_, rfl⟩ := trodVars_none hV
 rw [List.append_nil] at he
 subst he
 have hlt : ∀ x ∈ before, x.block < W.heap.size := fun x hx => hW'.lt x hx
 have hold : ∀ x ∈ before, (fun b => decide (b < W.heap.size)) x.block = true := fun x hx => by simpa using hlt x hx
 have hR : ∀ (b : Nat) (sp : Nat → Bool) (hd : Bool), DataW.TrodAll enc P W' b sp hd f.resultTypes.toList ((Value.bool true).resultList f.resultTypes.size) (s.fn H (ds ++ [])).results [] := by
  intro b sp hd
  rw [h1, hres]
  exact trodAll_mk1 (shut_bool htb _)
 have hAr : ∀ sp : Nat → Bool, (∀ x ∈ before, sp x.block = true) → DataW.TrodAll enc P W' 0 sp true f.params.toList args.toList (s.fn H (ds ++ [])).args before := by
  intro sp hsp
  rw [h2]
  exact trodAll_stays hl hb _ _ _ _ hts hA hlt hsp
 have hVr : ∀ sp : Nat → Bool, DataW.TrodVars enc P W' sp s.vars (s.fn H (ds ++ [])).vars [] := by
  intro sp
  rw [h3, hvars]
  rfl
 have hk : W.keptBut W' (· ∈ before) := by
  refine ⟨hb.os, hb.output, fun i hi => ?_⟩
  rw [hb.block i hi (fun h => h)]
  split <;> simp_all
 refine ⟨ds, [], before, [], before, [], hW', hR _ _ _, hAr _ hold, hVr _, World.keptBut_mono (fun p hp => ⟨hp, Or.inr (by simpa using hp)⟩) hk, fun _ => ?_⟩
 refine ⟨?_, _, _, ([] ++ before) ++ [], ⟨[] ++ before, [], trodAll_append (hAr _ (fun _ _ => rfl)) (hR _ _ _), hVr _, rfl, ?_, ?_⟩, ?_⟩
 ·exact ok_one hres rfl (okWide_bool_mk htb _)
 ·intro b off hp
  have hin : MemPlace.cell b off ∈ before := by simpa using hp
  have hbx := hb.block b (hlt _ hin) (fun hf => hf)
  rw [World.frozen?_of_block (w := W) (a := ⟨b, off, none⟩) hbx]
  exact hfz b off (by simpa using hin)
 ·intro ha
  have := hnd ha
  simpa using this
 ·intro p hp _
  simpa using hp
end
end Go.Proofs.YtaioaojfdngfdaaGreatDoor
namespace Go.Proofs.YtaioaojfdngfdaaGreatDoor
open Go.ChangeShapes Go.WideShapes Go.ChangeAt Go.RowKit Go.Deep
def flat {α : Type} (enc : α → List Value) (l : List α) : List Value := (l.map enc).flatten
theorem flat_cons {α : Type} (enc : α → List Value) (a : α) (l : List α) : flat enc (a :: l) = enc a ++ flat enc l := rfl
theorem flat_append {α : Type} (enc : α → List Value) (a b : List α) : flat enc (a ++ b) = flat enc a ++ flat enc b := by simp [flat]
theorem flat_len {α : Type} (enc : α → List Value) (n : Nat) (h : ∀ a, (enc a).length = n) (l : List α) : (flat enc l).length = l.length * n := by
 induction l with
 | nil => simp [flat]
 | cons a l ih => rw [flat_cons, List.length_append, h, ih, List.length_cons, Nat.add_mul]; omega
theorem flat_at {α : Type} (enc : α → List Value) (n : Nat) (h : ∀ a, (enc a).length = n) : ∀ (l : List α) (k j : Nat) (a : α), l[k]? = some a → j < n → (flat enc l)[k * n + j]? = (enc a)[j]?
 | [], k, j, a, hk, _ => by simp at hk
 | b :: l, 0, j, a, hk, hj => by
  simp at hk
  subst hk
  rw [flat_cons, List.getElem?_append_left (by rw [h]; omega)]
  simp
 | b :: l, k + 1, j, a, hk, hj => by
  have hk' : l[k]? = some a := by simpa using hk
  rw [flat_cons, List.getElem?_append_right (by rw [h, Nat.add_mul]; omega), h, ← flat_at enc n h l k j a hk' hj]
  congr 1
  rw [Nat.add_mul]; omega
section
variable {H : Type} {enc : TypeId × Value → H} {P : Program} {w : World}
end
end Go.Proofs.YtaioaojfdngfdaaGreatDoor
namespace Go.Proofs.YtaioaojfdngfdaaGreatDoor
open Go.ChangeShapes Go.WideShapes Go.ChangeAt Go.RowKit Go.Deep
theorem flat_cells {α : Type} {enc : α → List Value} {n : Nat} (hn : ∀ a, (enc a).length = n) {l : List α} {w : World} {M : Nat → Prop} {A : Option Addr} (hr : Rd w M A (flat enc l)) (k : Nat) (a : α) (hk : l[k]? = some a) (h0 : 0 < n) :
 ∃ b o, A = some ⟨b, o, none⟩ ∧ ¬ M b ∧ b < w.heap.size ∧ ∀ j, j < n → w.cell? ⟨b, o + k * n + j, none⟩ = (enc a)[j]? := by
 have hkl : k < l.length := (List.getElem?_eq_some_iff.1 hk).1
 have hfl := flat_len enc n hn l
 have h1 : k * n + n ≤ l.length * n := by
  rw [← Nat.succ_mul]
  exact Nat.mul_le_mul_right n hkl
 obtain ⟨b, o, hA, hm, hb, hc⟩ := hr.at_ (j := k * n) (by omega)
 refine ⟨b, o, hA, hm, hb, fun j hj => ?_⟩
 rw [Nat.add_assoc, hc (k * n + j) (by omega)]
 exact flat_at enc n hn l k j a hk hj
section
variable {H : Type} {enc : TypeId × Value → H} {P : Program} {w : World}
end
def evD : Ev := ⟨0, 0, 0, 0, ⟨#[]⟩, 0, ⟨0, 0, 0, 0, 0, 0⟩⟩
def evAt (l : List Ev) (k : Nat) : Ev := l.getD k evD
end Go.Proofs.YtaioaojfdngfdaaGreatDoor
namespace Go.Proofs.YtaioaojfdngfdaaGreatDoor
open Go.ChangeShapes Go.WideShapes Go.ChangeAt Go.RowKit Go.Deep
/-- a number of 64 bits -/
def I64 (n : Int) : Prop := -9223372036854775808 ≤ n ∧ n ≤ 9223372036854775807
structure StpOk (x : Stp) : Prop where
 tick : I64 x.tick
 at_ : I64 x.at_
 what : I64 x.what
 arm : I64 x.arm
 n : I64 x.n
 status : I64 x.status
structure EvOk (x : Ev) : Prop where
 k : I64 x.k
 id : I64 x.id
 n : I64 x.n
 tick : I64 x.tick
 err : I64 x.err
 st : StpOk x.st
section
variable {H : Type} {enc : TypeId × Value → H} {P : Program} {w : World}
end
end Go.Proofs.YtaioaojfdngfdaaGreatDoor
namespace Go.Proofs
open Go.Shelf
end Go.Proofs
namespace Go.Proofs.YtaioaojfdngfdaaGreatDoor
open Go.RowKit
section
variable {P : Program} (w : World)
theorem run_append_of_nil (base : Nat) (t ty e : TypeId) (i : TypeInfo) (size : Nat) (ht : P.underlying t = some (.slice e)) (hi : P.info? e = some i)
 (v : Value) (n : Nat) (xs : List Value) (hown : w.ownsRow base e size v n xs) (c : Nat) : (Builtin.append_ #[t, t] ty #[v, .slice none 0 c]).run P w = .ok v w := by
 rcases hown.2 with ⟨rfl, rfl⟩ | ⟨g, cap, cur, rfl, _, _, hnc, _⟩
 ·simp [Builtin.append_, run_underlying ht, sizeOf, typeInfo, hi, Builtin.lenOf, Builtin.firstCells]
 ·simp [Builtin.append_, run_underlying ht, sizeOf, typeInfo, hi, Builtin.lenOf, Builtin.firstCells, hnc, storeCells]
theorem run_append_rd (base : Nat) (t ty e : TypeId) (i : TypeInfo) (z : Value) (size bytes : Nat) (ht : P.underlying t = some (.slice e)) (hi : P.info? e = some i) (hz : i.zero = some z)
 (hsize : i.size = size) (hby : i.bytes = bytes) (hzs : z.cells.size = size) (hsz : 0 < size)
 (v : Value) (n : Nat) (xs : List Value) (hown : w.ownsRow base e size v n xs)
 (M : Nat → Prop) (A : Option Addr) (m c : Nat) (news : List Value) (hr : Rd w M A news) (hl : news.length = m * size) (h1 : ∀ u ∈ news, u.oneCell' = true)
 (h63 : n + m ≤ maxLen) (hbytes : (n + m) * bytes ≤ 140737488355328) (hbase : base ≤ w.heap.size) :
 ∃ v' w', (Builtin.append_ #[t, t] ty #[v, .slice A m c]).run P w = .ok v' w' ∧ w'.ownsRow base e size v' (n + m) (xs ++ news) ∧ w.grownBy w' v.ownBlock ∧
  (v'.ownBlock = v.ownBlock ∨ v'.ownBlock = some w.heap.size) := by
 rcases hr with hn | ⟨b, o, hA, _, _, hc⟩
 ·subst hn
  have hm : m = 0 := by
   rcases Nat.eq_zero_or_pos m with h0 | h0
   ·exact h0
   ·have := Nat.mul_pos h0 hsz
    simp at hl; omega
  subst hm
  cases A with
  | none => exact ⟨v, w, run_append_of_nil w base t ty e i size ht hi v n xs hown c, by simpa using hown, World.grownBy.refl w _, .inl rfl⟩
  | some ad =>
   obtain ⟨v', w', hrun, h2, h3, _, h5⟩ := run_append_own_at (P := P) w base t ty e i z size bytes ht hi hz hsize hby hzs hsz v n xs hown ad 0 c [] (by simp) (by simp) (by simp) h63 hbytes hbase
   exact ⟨v', w', hrun, h2, h3, h5⟩
 ·subst hA
  have hcells : ∀ j u, news[j]? = some u → w.cell? ((⟨b, o, none⟩ : Addr).add j) = some u := by
   intro j u hu
   rw [Addr.add_lit, ← hu]
   exact hc j (List.getElem?_eq_some_iff.1 hu).1
  obtain ⟨v', w', hrun, h2, h3, _, h5⟩ := run_append_own_at (P := P) w base t ty e i z size bytes ht hi hz hsize hby hzs hsz v n xs hown ⟨b, o, none⟩ m c news hl hcells h1 h63 hbytes hbase
  exact ⟨v', w', hrun, h2, h3, h5⟩
theorem wp_append_rd {o : Oper} {a : Act} {K : Act → World → Prop} {Q : Exit → Act → World → Prop} (s x : Operand) (t : TypeId)
 (ho : o.op = .call { callee := .builtin .append, args := #[s, x], argTypes := #[t, t] })
 (base : Nat) (e : TypeId) (i : TypeInfo) (z : Value) (size bytes : Nat) (ht : P.underlying t = some (.slice e)) (hi : P.info? e = some i) (hz : i.zero = some z)
 (hsize : i.size = size) (hby : i.bytes = bytes) (hzs : z.cells.size = size) (hsz : 0 < size)
 (v : Value) (n : Nat) (xs : List Value) (hs : a.eval s = v) (hown : w.ownsRow base e size v n xs)
 (M : Nat → Prop) (A : Option Addr) (m c : Nat) (news : List Value) (hx : a.eval x = .slice A m c) (hr : Rd w M A news) (hl : news.length = m * size) (h1 : ∀ u ∈ news, u.oneCell' = true)
 (h63 : n + m ≤ maxLen) (hbytes : (n + m) * bytes ≤ 140737488355328) (hbase : base ≤ w.heap.size)
 (h : ∀ v' w', w'.ownsRow base e size v' (n + m) (xs ++ news) → w.grownBy w' v.ownBlock → (v'.ownBlock = v.ownBlock ∨ v'.ownBlock = some w.heap.size) → K (a.put o.dst v') w') : o.wp P a w K Q := by
 obtain ⟨v', w', hrun, h2, h3, h4⟩ := run_append_rd (P := P) w base t o.type e i z size bytes ht hi hz hsize hby hzs hsz v n xs hown M A m c news hr hl h1 h63 hbytes hbase
 unfold Oper.wp execOp
 simp only [ho, resolve, invoke, builtin, Sem.run_bind, Sem.run_pure, Result.andThen_ok, List.map_toArray, List.map_cons, List.map_nil, hs, hx, hrun]
 exact h v' w' h2 h3 h4
theorem wpList_append_rd {ops : Array Oper} {rest : List Oper} {o : Oper} {a : Act} {Q : Exit → Act → World → Prop} (hgd : o.guard = none) (s x : Operand) (t : TypeId)
 (ho : o.op = .call { callee := .builtin .append, args := #[s, x], argTypes := #[t, t] })
 (base : Nat) (e : TypeId) (i : TypeInfo) (z : Value) (size bytes : Nat) (ht : P.underlying t = some (.slice e)) (hi : P.info? e = some i) (hz : i.zero = some z)
 (hsize : i.size = size) (hby : i.bytes = bytes) (hzs : z.cells.size = size) (hsz : 0 < size)
 (v : Value) (n : Nat) (xs : List Value) (hs : a.eval s = v) (hown : w.ownsRow base e size v n xs)
 (M : Nat → Prop) (A : Option Addr) (m c : Nat) (news : List Value) (hx : a.eval x = .slice A m c) (hr : Rd w M A news) (hl : news.length = m * size) (h1 : ∀ u ∈ news, u.oneCell' = true)
 (h63 : n + m ≤ maxLen) (hbytes : (n + m) * bytes ≤ 140737488355328) (hbase : base ≤ w.heap.size)
 (h : ∀ v' w', w'.ownsRow base e size v' (n + m) (xs ++ news) → w.grownBy w' v.ownBlock → (v'.ownBlock = v.ownBlock ∨ v'.ownBlock = some w.heap.size) → wpList P ops Q rest (a.put o.dst v') w') : wpList P ops Q (o :: rest) a w :=
 wpList_plain hgd fun _ hK => wp_append_rd w s x t ho base e i z size bytes ht hi hz hsize hby hzs hsz v n xs hs hown M A m c news hx hr hl h1 h63 hbytes hbase fun v' w' h2 h3 h4 => hK _ _ (h v' w' h2 h3 h4)
theorem step_append_rd {ops : Array Oper} {o : Oper} {a : Act} {K : Act → World → Prop} {Q : Exit → Act → World → Prop} {E : Prop} (hgd : o.guard = none) (s x : Operand) (t : TypeId)
 (ho : o.op = .call { callee := .builtin .append, args := #[s, x], argTypes := #[t, t] })
 (base : Nat) (e : TypeId) (i : TypeInfo) (z : Value) (size bytes : Nat) (ht : P.underlying t = some (.slice e)) (hi : P.info? e = some i) (hz : i.zero = some z)
 (hsize : i.size = size) (hby : i.bytes = bytes) (hzs : z.cells.size = size) (hsz : 0 < size)
 (v : Value) (n : Nat) (xs : List Value) (hs : a.eval s = v) (hown : w.ownsRow base e size v n xs)
 (M : Nat → Prop) (A : Option Addr) (m c : Nat) (news : List Value) (hx : a.eval x = .slice A m c) (hr : Rd w M A news) (hl : news.length = m * size) (h1 : ∀ u ∈ news, u.oneCell' = true)
 (h63 : n + m ≤ maxLen) (hbytes : (n + m) * bytes ≤ 140737488355328) (hbase : base ≤ w.heap.size)
 (h : ∀ v' w', w'.ownsRow base e size v' (n + m) (xs ++ news) → w.grownBy w' v.ownBlock → (v'.ownBlock = v.ownBlock ∨ v'.ownBlock = some w.heap.size) → K (a.put o.dst v') w') :
 if Region.wanted o (yielded ops a.tmps) = true then Oper.wp P o a w K Q else E := by
 have hw : Region.wanted o (yielded ops a.tmps) = true := by simp [Region.wanted, hgd]
 rw [if_pos hw]
 exact wp_append_rd w s x t ho base e i z size bytes ht hi hz hsize hby hzs hsz v n xs hs hown M A m c news hx hr hl h1 h63 hbytes hbase h
end
theorem own_empty {w : World} {base : Nat} {e : TypeId} {size : Nat} (h : base ≤ w.heap.size) : (w.alloc (.cells #[] e)).ownsRow base e size (.slice (some ⟨w.heap.size, 0, none⟩) 0 0) 0 [] :=
 ⟨by simp, Or.inr ⟨w.heap.size, 0, #[], rfl, h, heap_alloc_new _ _, Nat.le_refl _, by unfold maxLen; omega, by simp, by simp⟩⟩
theorem own_empty' {w : World} {base g : Nat} {e : TypeId} {size : Nat} (h : base ≤ w.heap.size) (hg : g = w.heap.size) : (w.alloc (.cells #[] e)).ownsRow base e size (.slice (some ⟨g, 0, none⟩) 0 0) 0 [] := by
 subst hg; exact own_empty h
theorem Rd.alloc {w : World} {M : Nat → Prop} {A : Option Addr} {xs : List Value} (h : Rd w M A xs) (o : Obj) : Rd (w.alloc o) M A xs := h.only ((Only.refl NoBlk _).alloc o) (fun _ h => h.elim)
/-- a block reads as its cells -/
theorem rd_blkN {w : World} {M : Nat → Prop} {g : Nat} {t : TypeId} {xs : List Value} (h : Blk w g t xs.toArray) (hm : ¬ M g) : Rd w M (some ⟨g, 0, none⟩) xs :=
 Or.inr ⟨g, 0, rfl, hm, h.lt, fun j hj => by
  rw [h.cell, List.getElem?_toArray, Nat.zero_add]⟩
theorem own_cap {w : World} {base size n : Nat} {e : TypeId} {v : Value} {xs : List Value} (h : w.ownsRow base e size v n xs) : ∃ A c, v = .slice A n c ∧ n ≤ c := by
 rcases h.2 with ⟨hv, hn⟩ | ⟨g, cap, cur, hv, _, _, hnc, _⟩
 ·exact ⟨none, 0, by rw [hv, hn], by omega⟩
 ·exact ⟨_, cap, hv, hnc⟩
end Go.Proofs.YtaioaojfdngfdaaGreatDoor
