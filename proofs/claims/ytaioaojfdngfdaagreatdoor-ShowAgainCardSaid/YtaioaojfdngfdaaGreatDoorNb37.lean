/- Parts of a chain of lemmas: ParGd, ParLaid, PBase, LoadP, Reg, Ld1, Ld2. Conditions: those of each theorem. -/
import Derived.Test.YtaioaojfdngfdaaGreatDoorNb20
import Derived.Test.YtaioaojfdngfdaaGreatDoorNb31
import Derived.Test.YtaioaojfdngfdaaGreatDoorRows
import Derived.ProofKit
import Derived.LaidMore
import Derived.OpenShut
import Derived.Stop.Joined
import Derived.MakeChecks
import Derived.LaidLaws
import Derived.Shelf.Vars
import Derived.Handed
import Derived.Test.YtaioaojfdngfdaaGreatDoorNb06
import Derived.Test.YtaioaojfdngfdaaGreatDoorNb07
import Derived.Test.YtaioaojfdngfdaaGreatDoorNb08
import Derived.Test.YtaioaojfdngfdaaGreatDoorNb30
import Derived.Test.YtaioaojfdngfdaaGreatDoorNb36
import Derived.Test.YtaioaojfdngfdaaGreatDoorNb25
import Derived.Test.YtaioaojfdngfdaaGreatDoorNb02
import Derived.Lib.Join
import Derived.BigRegion
set_option linter.unusedVariables false
set_option linter.unusedSimpArgs false
namespace Go.Proofs.YtaioaojfdngfdaaGreatDoor
open Go.RowKit
theorem firstAt_noneG : ∀ (l : List Int) (i : Nat), (firstAt i l).2 = 0 → ∀ e ∈ l, e = 0 := by
 intro l
 induction l with
 | nil => intro i _ e he; cases he
 | cons a r ih =>
  intro i h e he
  unfold firstAt at h
  by_cases ha : a = 0
  ·rw [if_neg (by omega)] at h
   rcases List.mem_cons.1 he with rfl | he
   ·exact ha
   ·exact ih _ h e he
  ·rw [if_pos ha] at h
   exact absurd h ha
theorem firstE_noneG : ∀ (l : List Int), firstE l = 0 → ∀ e ∈ l, e = 0 := by
 intro l
 induction l with
 | nil => intro _ e he; cases he
 | cons a r ih =>
  intro h e he
  unfold firstE at h
  by_cases ha : a = 0
  ·rw [if_neg (by omega)] at h
   rcases List.mem_cons.1 he with rfl | he
   ·exact ha
   ·exact ih h e he
  ·rw [if_pos ha] at h
   exact absurd h ha
theorem opE_sz {k : Nat} {o : OpM} (h : opE k o = 0) : o.arms.length ≤ 100 ∧ o.text.size ≤ 256 ∧ ∀ a ∈ o.arms, a.pat.size ≤ 64 := by
 unfold opE at h
 split at h
 ·simp at h
 split at h
 ·simp at h
 rename_i h0 hb
 have hb' : bareB o = true := by simpa using hb
 unfold bareB at hb'
 simp only [Bool.and_eq_true, Bool.or_eq_true, decide_eq_true_eq] at hb'
 obtain ⟨⟨⟨b1, b2⟩, b3⟩, b4⟩ := hb'
 by_cases h2 : o.kind = 2
 ·rw [if_neg (by omega), if_pos h2] at h
  unfold expectE at h
  split at h
  ·simp at h
  split at h
  ·simp at h
  rename_i ha
  split at h
  ·rename_i h1; exact absurd h h1
  rename_i hf
  have hf' : firstE (o.arms.map (armE k)) = 0 := by omega
  refine ⟨by omega, by omega, fun a hm => ?_⟩
  have e := firstE_noneG _ hf' _ (List.mem_map.2 ⟨a, hm, rfl⟩)
  unfold armE at e
  split at e
  ·simp at e
  ·omega
 ·have b5 : o.arms.length = 0 := by
   rcases b4 with b4 | ⟨⟨b4, b5⟩, b6⟩
   ·exact absurd b4 h2
   ·exact b4
  have c4 : o.arms = [] := List.length_eq_zero_iff.1 b5
  refine ⟨by omega, ?_, by rw [c4]; simp⟩
  rcases b1 with b1 | b1
  ·rw [if_pos b1] at h
   split at h
   ·simp at h
   split at h
   ·simp at h
   omega
  ·omega
theorem good_sz {p : ProgM} (h : goodM p = true) : p.ops.length ≤ 200 ∧ p.name.size ≤ 16 ∧ ∀ o ∈ p.ops, o.arms.length ≤ 100 ∧ o.text.size ≤ 256 ∧ ∀ a ∈ o.arms, a.pat.size ≤ 64 := by
 have hw : (wrongM p).2 = 0 := by
  unfold goodM at h
  rwa [decide_eq_true_eq] at h
 have hh : headE p = 0 := by
  unfold wrongM at hw
  by_cases hh : headE p = 0
  ·exact hh
  ·rw [if_pos hh] at hw; exact hw
 have ho : ∀ o ∈ p.ops, opE p.ops.length o = 0 := fun o ho => by
  unfold wrongM at hw
  rw [if_neg (by omega)] at hw
  exact firstAt_noneG _ _ hw _ (List.mem_map.2 ⟨o, ho, rfl⟩)
 unfold headE at hh
 split at hh
 ·simp at hh
 rename_i h1
 split at hh
 ·simp at hh
 split at hh
 ·simp at hh
 have h1' : nameB p.name = true := by simpa using h1
 unfold nameB nameL at h1'
 simp at h1'
 refine ⟨by omega, ?_, fun o hm => opE_sz (ho o hm)⟩
 have := h1'.1.1.2
 simpa using this
end Go.Proofs.YtaioaojfdngfdaaGreatDoor
namespace Go.Proofs.YtaioaojfdngfdaaGreatDoor
open Go.ChangeShapes Go.WideShapes Go.ChangeAt Go.RowKit
/-- a row's step that keeps both what is laid and the world's shape -/
theorem handed_and_shaped {H : Type} {enc : TypeId × Value → H} {a : Assume} {C : Checked} {os : Os} {f : FuncId} {fn : Func} {s : ChangeSpec} {conds : List PathCond} {apart fresh handsOn again : Bool} {X : World → Array Value → Prop}
 (hX : ∀ (w w' : World) (args : Array Value), w.heap = w'.heap → X w args → X w' args)
 (own : ownKnob C.prog.godebug = none) (started : os.Started) (noInit : C.prog.inits.idxOf? f = none) (hfn : C.prog.funcs[f]? = some fn)
 (witness : ∃ (w : World) (tape : Tape) (i : Input), w.os = os ∧ (w.forCall tape i).Shaped C.prog ∧ i.vars = [] ∧ Input.okWide C.prog (w.forCall tape i) .any w.heap.size f i ∧
   ((s.pre enc C.prog fn conds apart (w.forCall tape i).memory i.args ∧ X (w.forCall tape i).memory i.args) ∧ sizedMet enc C.prog fn (OpenSpec.ofChange s) apart (w.forCall tape i).memory i.args) ∧ a.holds C.prog (lone (Frame.enter C.prog f i.args .normal) [] (w.forCall tape i)))
 (contract : ∀ (W : World) (base : Nat) (args : Array Value) (ds gs : List (DataW H)) (before : List MemPlace),
   (∀ (j : Nat) t v, fn.params[j]? = some t → args[j]? = some v → Value.okWide C.prog W .any base t v) →
   DataW.Whole enc C.prog fn.params.toList s.vars apart W args.toList ds gs before → X W args → W.ShapedOpen C.prog →
   Calls C.prog f args W fun e W' => ∃ v, e = .returned v ∧ s.post enc C.prog fn apart fresh handsOn again W args v W') :
 ReturnsInHanded a C os f .any (fun w args => (s.pre enc C.prog fn conds apart w args ∧ X w args) ∧ sizedMet enc C.prog fn (OpenSpec.ofChange s) apart w args) (s.post enc C.prog fn apart fresh handsOn again) := by
 refine returnsInHanded_of_calls own started noInit witness ?_
 intro w tape i _ hsh _ hok hpre _
 obtain ⟨_, _, _, fn', hfn', _, _, _, _, hval⟩ := hok
 obtain rfl : fn' = fn := Option.some.inj (hfn'.symm.trans hfn)
 obtain ⟨⟨⟨ds, gs, before, hw, hc⟩, hx⟩, hz⟩ := hpre
 refine (contract (w.forCall tape i) w.heap.size i.args ds gs before hval (DataW.Whole.of_heap (w' := w.forCall tape i) (by rfl) hw) (hX _ _ _ (by rfl) hx) hsh).mono fun e W' ⟨v, he, hp⟩ => ?_
 subst he
 exact ChangeSpec.post_blind hp
theorem Tryz.gErr : Tryz.prog.globalNamed "strconv.ErrRange" = some 8 := by kernel_rfl
theorem Tryz.tErr : (Tryz.prog.globals[8]?).map (·.type) = some 62 := by kernel_rfl
theorem vars_of_laid {W : World} (h : laidMetH Tryz.prog Rows.parseReadsRow.laid W) (hsh : W.ShapedOpen Tryz.prog) : Vars W := by
 have h1 : LenV W := cell_of_shapedOpen_int (P := Tryz.prog) (g := 2) (t := 3) (zero := #[.int .i64 0]) hsh (of_decide_eq_true (by kernel_rfl)) (by kernel_rfl) rfl (by kernel_rfl) (by kernel_rfl) Tryz.underlying3
 rw [MakeChecks.laidMetH_plain _ _ _ (by kernel_rfl)] at h
 obtain ⟨ps, ⟨g0, t0, cs0, f0, p0, q0, hg0, ht0, hv0, hd0, ⟨g1, t1, cs1, f1, p1, q1, hg1, ht1, hv1, hd1, ⟨g2, t2, cs2, f2, p2, q2, hg2, ht2, hv2, hd2, ⟨g3, t3, cs3, f3, p3, q3, hg3, ht3, hv3, hd3, ⟨g4, t4, cs4, f4, p4, q4, hg4, ht4, hv4, hd4, _, _⟩, _⟩, _⟩, _⟩, _⟩, _, _⟩ := h
 obtain rfl := Option.some.inj (Tryz.gErr.symm.trans hg4)
 obtain rfl := Option.some.inj (Tryz.tErr.symm.trans ht4)
 obtain ⟨_, u, v, hcs, _, _⟩ := iface_of_trod Tryz.underlying62 hd4
 have hc : W.cell? ⟨8, 0, none⟩ = some (.iface u v) := by
  have := World.var?_cell hg4 hv4 0
  rw [this]
  obtain ⟨l⟩ := cs4
  simp at hcs
  subst hcs
  rfl
 refine ⟨h1, ⟨_, hc, Or.inr ⟨u, v, rfl⟩⟩, ?_⟩
 rcases Nat.lt_or_ge 8 W.heap.size with hl | hl
 ·exact hl
 ·exfalso
  unfold World.cell? at hc
  simp [Array.getElem?_eq_none hl] at hc
end Go.Proofs.YtaioaojfdngfdaaGreatDoor
namespace Go.Proofs.YtaioaojfdngfdaaGreatDoor
theorem linesM_pos (L : List UInt8) : 0 < (linesM L).length := by
 unfold linesM
 have : ∀ (r cur : List UInt8), 0 < (linesGo r cur).length := by
  intro r
  induction r with
  | nil => intro cur; unfold linesGo; simp
  | cons c r ih =>
   intro cur
   unfold linesGo
   split
   ·simp
   ·exact ih _
 exact this L []
end Go.Proofs.YtaioaojfdngfdaaGreatDoor
namespace Go.Proofs.YtaioaojfdngfdaaGreatDoor
open Go.RowKit
def headB (s : List UInt8) : Bool := decide (s = kScript) || decide (s.take 7 = [115, 99, 114, 105, 112, 116, 32])
theorem head_says {s : List UInt8} (h : headB s = true) : idleB s = false := by
 unfold headB at h
 rw [Bool.or_eq_true, decide_eq_true_eq, decide_eq_true_eq] at h
 rcases h with h | h
 ·subst h; rfl
 ·cases s with
  | nil => simp at h
  | cons a r =>
   rw [List.take_succ_cons] at h
   injection h with h1 _
   subst h1
   simp [idleB, atB]
structure PartM where
 line : Nat
 l : List (List UInt8)
structure ScrM where
 prog : ProgM
 line : Int
 x : Int
 y : Int
 err : Int
def cutGo : List (List UInt8) → Nat → PartM → List PartM
 | [], _, at_ => [at_]
 | s :: r, i, at_ => if headB s = true then at_ :: cutGo r (i + 1) ⟨i + 1, [s]⟩ else cutGo r (i + 1) ⟨at_.line, at_.l ++ [s]⟩
def saysL (l : List (List UInt8)) : Bool := l.any fun s => !idleB s
def dropP (o : List PartM) : List PartM := match o with
 | [] => []
 | p :: r => if saysL p.l = true then p :: r else r
def cutM (s : List UInt8) : List PartM := dropP (cutGo (linesM s) 0 ⟨1, []⟩)
def sayB (s : List UInt8) : Bool := !idleB s
/-- the place of the first line that says something; -1: there is none -/
def idxS (l : List (List UInt8)) : Int := if l.any sayB = true then (l.findIdx sayB : Int) else -1
def isScr (name : ByteArray) (s : ScrM) : Bool := decide (s.err = 0) && decide (s.prog.name = name)
def findM (l : List ScrM) (name : ByteArray) : Nat := l.findIdx (isScr name)
def hasM (l : List ScrM) (name : ByteArray) : Bool := l.any (isScr name)
def readScr (r : ProgM × (Int × Int) × Int) (p : PartM) (ahead : List ScrM) : ScrM :=
 if r.2.2 ≠ 0 then ⟨noProg, p.line, r.2.1.1 + p.line - 1, r.2.1.2, r.2.2⟩
 else if hasM ahead r.1.name = true then ⟨noProg, p.line, p.line + idxS p.l, 8, 6⟩
 else ⟨r.1, p.line, 0, 0, 0⟩
def readM (p : PartM) (ahead : List ScrM) : ScrM := readScr (parseM (Lib.join p.l [10])) p ahead
def readAll : List PartM → List ScrM → List ScrM
 | [], o => o
 | p :: r, o => readAll r (o ++ [readM p o])
def loadM (s : List UInt8) : List ScrM × Int :=
 if 40000 < s.length then ([], 4) else if 64 < (cutM s).length then ([], 4) else (readAll (cutM s) [], 0)
/-- by the document: a script's lines, if they say anything, are read behind those ahead -/
def addD (p : PartM) (o : List ScrM) : List ScrM := if saysL p.l = true then o ++ [readM p o] else o
def docGo : List (List UInt8) → Nat → List (List UInt8) → List ScrM → List ScrM
 | [], k, cur, o => addD ⟨k + 1, cur⟩ o
 | s :: r, k, cur, o => if headB s = true then docGo r (k + cur.length) [s] (addD ⟨k + 1, cur⟩ o) else docGo r k (cur ++ [s]) o
def docStart (l : List (List UInt8)) : List ScrM := match l with
 | [] => []
 | s :: r => docGo r 0 [s] []
def loadD (s : List UInt8) : List ScrM × Int :=
 if 40000 < s.length then ([], 4) else if 64 < (docStart (linesM s)).length then ([], 4) else (docStart (linesM s), 0)
def addAll : List PartM → List ScrM → List ScrM
 | [], o => o
 | p :: r, o => addAll r (addD p o)
theorem docGo_eq : ∀ (r : List (List UInt8)) (k : Nat) (cur : List (List UInt8)) (o : List ScrM), docGo r k cur o = addAll (cutGo r (k + cur.length) ⟨k + 1, cur⟩) o
 | [], k, cur, o => rfl
 | s :: r, k, cur, o => by
  unfold docGo cutGo
  by_cases h : headB s = true
  ·rw [if_pos h, if_pos h, docGo_eq r]
   rfl
  ·rw [if_neg h, if_neg h, docGo_eq r]
   simp [Nat.add_assoc]
theorem says_cons {s : List UInt8} (h : headB s = true) (r : List (List UInt8)) : saysL (s :: r) = true := by
 unfold saysL
 rw [List.any_cons, head_says h]
 rfl
theorem says_app {a : List (List UInt8)} (h : saysL a = true) (b : List (List UInt8)) : saysL (a ++ b) = true := by
 unfold saysL at h ⊢
 rw [List.any_append, h]
 rfl
/-- what comes behind a part says something -/
theorem cut_says : ∀ (r : List (List UInt8)) (i : Nat) (p : PartM), ∃ q o, cutGo r i p = q :: o ∧ q.line = p.line ∧ (saysL p.l = true → saysL q.l = true) ∧ ∀ x ∈ o, saysL x.l = true
 | [], _, p => ⟨p, [], rfl, rfl, id, fun _ h => by cases h⟩
 | s :: r, i, p => by
  unfold cutGo
  by_cases h : headB s = true
  ·rw [if_pos h]
   obtain ⟨q, o, e, _, h2, h3⟩ := cut_says r (i + 1) ⟨i + 1, [s]⟩
   refine ⟨p, _, rfl, rfl, id, fun x hx => ?_⟩
   rw [e] at hx
   rcases List.mem_cons.1 hx with rfl | hx
   ·exact h2 (says_cons h [])
   ·exact h3 x hx
  ·rw [if_neg h]
   obtain ⟨q, o, e, h1, h2, h3⟩ := cut_says r (i + 1) ⟨p.line, p.l ++ [s]⟩
   exact ⟨q, o, e, h1, fun h => h2 (says_app h _), h3⟩
theorem addAll_says : ∀ (l : List PartM) (o : List ScrM), (∀ x ∈ l, saysL x.l = true) → addAll l o = readAll l o
 | [], _, _ => rfl
 | p :: r, o, h => by
  unfold addAll readAll addD
  rw [if_pos (h p (List.mem_cons_self ..)), addAll_says r _ fun x hx => h x (List.mem_cons_of_mem _ hx)]
theorem readAll_len : ∀ (l : List PartM) (o : List ScrM), (readAll l o).length = o.length + l.length
 | [], _ => rfl
 | p :: r, o => by unfold readAll; rw [readAll_len r]; simp; omega
theorem drop_pos {p : PartM} (h : saysL p.l = true) (r : List PartM) : dropP (p :: r) = p :: r := if_pos h
theorem drop_neg {p : PartM} (h : ¬ saysL p.l = true) (r : List PartM) : dropP (p :: r) = r := if_neg h
theorem addAll_drop (r : List (List UInt8)) (i : Nat) (p : PartM) : addAll (cutGo r i p) [] = readAll (dropP (cutGo r i p)) [] := by
 obtain ⟨q, o, e, _, _, h3⟩ := cut_says r i p
 rw [e]
 by_cases h : saysL q.l = true
 ·rw [drop_pos h]
  refine addAll_says _ _ fun x hx => ?_
  rcases List.mem_cons.1 hx with rfl | hx
  ·exact h
  ·exact h3 x hx
 ·rw [drop_neg h]
  show addAll o (addD q []) = _
  unfold addD
  rw [if_neg h]
  exact addAll_says _ _ h3
theorem doc_same (l : List (List UInt8)) (hl : 0 < l.length) : docStart l = readAll (dropP (cutGo l 0 ⟨1, []⟩)) [] := by
 cases l with
 | nil => simp at hl
 | cons s r =>
  show docGo r 0 [s] [] = _
  rw [docGo_eq]
  show addAll (cutGo r 1 ⟨1, [s]⟩) [] = _
  rw [addAll_drop]
  by_cases h : headB s = true
  ·have e : cutGo (s :: r) 0 ⟨1, []⟩ = ⟨1, []⟩ :: cutGo r 1 ⟨1, [s]⟩ := by
    show (if headB s = true then _ else _) = _
    rw [if_pos h]
   rw [e]
   obtain ⟨q, o, e2, _, h2, h3⟩ := cut_says r 1 ⟨1, [s]⟩
   rw [e2, drop_pos (h2 (says_cons h [])), drop_neg (by decide)]
  ·have e : cutGo (s :: r) 0 ⟨1, []⟩ = cutGo r 1 ⟨1, [s]⟩ := by
    show (if headB s = true then _ else _) = _
    rw [if_neg h]
    rfl
   rw [e]
theorem load_same (s : List UInt8) : loadM s = loadD s := by
 unfold loadM loadD
 rw [doc_same _ (linesM_pos s)]
 rw [readAll_len]
 simp only [List.length_nil, Nat.zero_add]
 rfl
section
variable {P : Program} {ops : Array Oper} {Q : Exit → Act → World → Prop} {md : Region.Mode} {S S' : World → Prop}
/-- a condition that is stronger does as well: so facts that come up within a region may be held from there on -/
theorem wpAnyH_strong (hS : ∀ w, S' w → S w) : ∀ (fuel : Nat) (listed : Array Bool) (a : Act) (w : World), wpAnyH P md ops Q S' fuel listed a w → wpAnyH P md ops Q S fuel listed a w
 | 0, _, _, _, h => h
 | fuel + 1, _, _, _, h => ⟨h.1, fun i hi => wpOp_mono (fun a' w' h' => ⟨hS _ h'.1, wpAnyH_strong hS fuel _ a' w' h'.2⟩) (h.2 i hi)⟩
end
theorem flat_ln_cells (l : List (List UInt8)) (j : Nat) (h : j < l.length) : (flat encLn l)[j]? = some (.string (bs (l.getD j []))) := by
 induction l generalizing j with
 | nil => simp at h
 | cons x l ih =>
  cases j with
  | zero => simp [flat, encLn]
  | succ j =>
   have := ih j (by simpa using h)
   simp [flat, encLn] at this ⊢
   simpa using this
theorem flat_ln_len (l : List (List UInt8)) : (flat encLn l).length = l.length := by
 induction l with
 | nil => rfl
 | cons x l ih => simp [flat, encLn] at ih ⊢; exact ih
/-- a line of a text, in memory -/
theorem line_cell {w : World} {base n c : Nat} {A : Option Addr} {L : List (List UInt8)} (h : w.ownsRow base 9 1 (.slice A n c) n (flat encLn L)) (j : Nat) (hj : j < L.length) :
 ∃ b o, A = some ⟨b, o, none⟩ ∧ b < w.heap.size ∧ ∀ j, j < L.length → w.cell? ⟨b, o + j, none⟩ = some (.string (bs (L.getD j []))) := by
 obtain ⟨b, o, hA, _, hb, hc⟩ := (Rd.of_own (M := NoBlk) h (fun _ h => h.elim)).at_ (j := j) (by rw [flat_ln_len]; exact hj)
 exact ⟨b, o, hA, hb, fun j hj => by rw [hc j (by rw [flat_ln_len]; exact hj), flat_ln_cells L j hj]⟩
theorem beq_dec (a b : List UInt8) : (a == b) = decide (a = b) := by
 by_cases h : a = b
 ·subst h; simp
 ·rw [decide_eq_false h]; exact beq_eq_false_iff_ne.2 h
theorem ext7 (s : ByteArray) : ((s.extract 0 7).toList == [115, 99, 114, 105, 112, 116, 32]) = decide (s.data.toList.take 7 = [115, 99, 114, 105, 112, 116, 32]) := by
 rw [ByteArray.toList_eq, sub_bs', List.drop_zero]
 exact beq_dec _ _
theorem lst6 (s : ByteArray) : (s.toList == [115, 99, 114, 105, 112, 116]) = decide (s.data.toList = kScript) := by
 rw [ByteArray.toList_eq]
 exact beq_dec _ _
theorem take7_no {s : ByteArray} (h : ¬ 7 ≤ s.size) : decide (s.data.toList.take 7 = [115, 99, 114, 105, 112, 116, 32]) = false := by
 refine decide_eq_false fun e => h ?_
 have h1 := congrArg List.length e
 rw [List.length_take] at h1
 have h2 : s.data.toList.length = s.size := by simp
 simp at h1
 omega
set_option maxRecDepth 100000 in
set_option maxHeartbeats 1600000 in
theorem pre_c (s : ByteArray) (w : World) (hs : s.size ≤ 9223372036854775807) : Calls Tryz.prog 153 #[.string s, .string ⟨#[115, 99, 114, 105, 112, 116, 32]⟩] w fun e w' => e = .returned (.bool (decide (s.data.toList.take 7 = [115, 99, 114, 105, 112, 116, 32]))) ∧ w' = w := by
 by_cases h : 7 ≤ s.size
 case pos =>
  have d1 : decide ((7 : Int) ≤ (s.size : Int)) = true := by simp; omega
  have d2 : decide (7 ≤ s.size) = true := by simp; omega
  have j1 : (0 : Int) ≤ (7 : Int) := by omega
  have j2 : (7 : Int) ≤ (s.size : Int) := by omega
  have HX := hide (ext7 s)
  obtain ⟨B, hB⟩ : ∃ B, B = decide (s.data.toList.take 7 = [115, 99, 114, 105, 112, 116, 32]) := ⟨_, rfl⟩
  rw [← hB] at HX ⊢
  obtain ⟨x, hx⟩ : ∃ x, x = s.extract 0 7 := ⟨_, rfl⟩
  have q := HX.out
  clear hB h HX hx
  go_enter Tryz.func153, Tryz.ntmps153
  go_wp2_with fail
  all_goals (go_ret; exact ⟨by rw [← q]; rfl, rfl⟩)
 case neg =>
  have d1 : decide ((7 : Int) ≤ (s.size : Int)) = false := by simp; omega
  have d2 : decide (7 ≤ s.size) = false := by simp; omega
  have HX := hide (take7_no h)
  obtain ⟨B, hB⟩ : ∃ B, B = decide (s.data.toList.take 7 = [115, 99, 114, 105, 112, 116, 32]) := ⟨_, rfl⟩
  rw [← hB] at HX ⊢
  clear hB h
  go_enter Tryz.func153, Tryz.ntmps153
  go_wp2_with fail
  go_ret
  exact ⟨by rw [HX.out]; rfl, rfl⟩
theorem hasPre_c (s : ByteArray) (w : World) (hs : s.size ≤ 9223372036854775807) : Calls Tryz.prog 125 #[.string s, .string ⟨#[115, 99, 114, 105, 112, 116, 32]⟩] w fun e w' => e = .returned (.bool (decide (s.data.toList.take 7 = [115, 99, 114, 105, 112, 116, 32]))) ∧ w' = w := by
 have HP := hide (fun X => pre_c s X hs)
 obtain ⟨B, hB⟩ : ∃ B, B = decide (s.data.toList.take 7 = [115, 99, 114, 105, 112, 116, 32]) := ⟨_, rfl⟩
 rw [← hB] at HP ⊢
 clear hB
 go_enter Tryz.func125, Tryz.ntmps125
 go_wp2_with fail
 refine (HP.out _).mono ?_
 rintro e w' ⟨rfl, rfl⟩
 go_wp2_with fail
 go_ret
 exact ⟨rfl, rfl⟩
set_option maxRecDepth 100000 in
set_option maxHeartbeats 1600000 in
theorem heads_c (s : ByteArray) (w : World) (hs : s.size ≤ 9223372036854775807) : Calls Tryz.prog 81 #[.string s] w fun e w' => e = .returned (.bool (headB s.data.toList)) ∧ w' = w := by
 have HP := hide (fun X => hasPre_c s X hs)
 have HL := hide (lst6 s)
 have HB := hide (show headB s.data.toList = (decide (s.data.toList = kScript) || decide (s.data.toList.take 7 = [115, 99, 114, 105, 112, 116, 32])) from rfl)
 obtain ⟨B, hB⟩ : ∃ B, B = decide (s.data.toList.take 7 = [115, 99, 114, 105, 112, 116, 32]) := ⟨_, rfl⟩
 obtain ⟨C, hC⟩ : ∃ C, C = decide (s.data.toList = kScript) := ⟨_, rfl⟩
 obtain ⟨D, hD⟩ : ∃ D, D = headB s.data.toList := ⟨_, rfl⟩
 rw [← hB] at HP HB
 rw [← hC] at HL HB
 rw [← hD] at HB ⊢
 clear hB hC hD
 cases C with
 | true =>
  have q := HL.out
  go_enter Tryz.func81, Tryz.ntmps81
  go_wp2_with fail
  go_ret
  exact ⟨by rw [HB.out]; rfl, rfl⟩
 | false =>
  have q := HL.out
  go_enter Tryz.func81, Tryz.ntmps81
  go_wp2_with fail
  refine (HP.out _).mono ?_
  rintro e w' ⟨rfl, rfl⟩
  go_wp2_with fail
  go_ret
  exact ⟨by rw [HB.out]; rfl, rfl⟩
set_option maxRecDepth 100000 in
set_option maxHeartbeats 1600000 in
theorem refHeads_c (s : ByteArray) (w : World) (hs : s.size ≤ 9223372036854775807) : Calls Tryz.prog 49 #[.string s] w fun e w' => e = .returned (.bool (headB s.data.toList)) ∧ w' = w := by
 have HL := hide (lst6 s)
 have HX := hide (ext7 s)
 have HN := hide (fun h : ¬ 7 ≤ s.size => take7_no h)
 have HB := hide (show headB s.data.toList = (decide (s.data.toList = kScript) || decide (s.data.toList.take 7 = [115, 99, 114, 105, 112, 116, 32])) from rfl)
 obtain ⟨B, hB⟩ : ∃ B, B = decide (s.data.toList.take 7 = [115, 99, 114, 105, 112, 116, 32]) := ⟨_, rfl⟩
 obtain ⟨C, hC⟩ : ∃ C, C = decide (s.data.toList = kScript) := ⟨_, rfl⟩
 obtain ⟨D, hD⟩ : ∃ D, D = headB s.data.toList := ⟨_, rfl⟩
 rw [← hB] at HX HN HB
 rw [← hC] at HL HB
 rw [← hD] at HB ⊢
 clear hB hC hD
 cases C with
 | true =>
  have q := HL.out
  go_enter Tryz.func49, Tryz.ntmps49
  go_wp2_with fail
  go_ret
  exact ⟨by rw [HB.out]; rfl, rfl⟩
 | false =>
  have q := HL.out
  by_cases h : 7 ≤ s.size
  case pos =>
   have d1 : decide ((6 : Int) < (s.size : Int)) = true := by simp; omega
   have d2 : decide (6 < s.size) = true := by simp; omega
   have j2 : (7 : Int) ≤ (s.size : Int) := by omega
   have q2 := HX.out
   go_enter Tryz.func49, Tryz.ntmps49
   go_wp2_with fail
   all_goals (go_ret; exact ⟨by rw [HB.out, ← q2]; rfl, rfl⟩)
  case neg =>
   have d1 : decide ((6 : Int) < (s.size : Int)) = false := by simp; omega
   have d2 : decide (6 < s.size) = false := by simp; omega
   have HE := hide (HN.out h)
   clear h HN
   go_enter Tryz.func49, Tryz.ntmps49
   go_wp2_with fail
   go_ret
   exact ⟨by rw [HB.out, HE.out]; rfl, rfl⟩
theorem says_c (s : ByteArray) (w : World) : Calls Tryz.prog 83 #[.string s] w fun e w' => e = .returned (.bool (!idleB s.data.toList)) ∧ w' = w := by
 have HP := hide (fun X => Idle_c s X)
 obtain ⟨B, hB⟩ : ∃ B, B = idleB s.data.toList := ⟨_, rfl⟩
 rw [← hB] at HP ⊢
 clear hB
 go_enter Tryz.func83, Tryz.ntmps83
 go_wp2_with fail
 refine (HP.out _).mono ?_
 rintro e w' ⟨rfl, rfl⟩
 go_wp2_with fail
 go_ret
 exact ⟨rfl, rfl⟩
theorem idxS_at (l : List (List UInt8)) (k : Nat) (hk : k < l.length) (h : ∀ y ∈ l.take k, sayB y = false) (hx : sayB (l.getD k []) = true) : idxS l = k := by
 have e : l.getD k [] = l[k] := by simp [List.getD, hk]
 rw [e] at hx
 unfold idxS
 rw [if_pos (List.any_eq_true.2 ⟨l[k], List.getElem_mem hk, hx⟩)]
 have : l.findIdx sayB = k := by
  rw [List.findIdx_eq hk]
  exact ⟨hx, fun j hj => h _ (by rw [List.mem_take_iff_getElem]; exact ⟨j, by omega, rfl⟩)⟩
 rw [this]
theorem idxS_none (l : List (List UInt8)) (h : ∀ y ∈ l, sayB y = false) : idxS l = -1 := by
 unfold idxS
 rw [if_neg (fun ha => by obtain ⟨x, hx, ho⟩ := List.any_eq_true.1 ha; rw [h x hx] at ho; cases ho)]
theorem idxS_ge (l : List (List UInt8)) : decide (0 ≤ idxS l) = saysL l := by
 show _ = l.any sayB
 unfold idxS
 cases h : l.any sayB
 ·rfl
 ·simp
theorem idxS_lt (l : List (List UInt8)) : idxS l < l.length ∧ -1 ≤ idxS l ∨ l = [] ∧ idxS l = -1 := by
 cases h : l.any sayB with
 | true =>
  left
  have : l.findIdx sayB < l.length := List.findIdx_lt_length.2 (by simpa using List.any_eq_true.1 h)
  unfold idxS
  rw [if_pos h]
  omega
 | false =>
  have e : idxS l = -1 := by unfold idxS; rw [if_neg (by rw [h]; decide)]
  rcases l with _ | ⟨a, r⟩
  ·exact Or.inr ⟨rfl, e⟩
  ·left; rw [e]; simp; omega
set_option maxRecDepth 100000 in
set_option maxHeartbeats 3200000 in
theorem IndexS_c (A : Option Addr) (c : Nat) (l : List (List UInt8)) (w : World) (hr : Rd w NoBlk A (flat encLn l)) (hn0 : l.length ≤ maxLen) :
 Calls Tryz.prog 126 #[.slice A l.length c, .func (.func 83) #[] #[]] w fun e w' => e = .returned (.int .i64 (idxS l)) ∧ w' = w := by
 have hn : l.length ≤ 9223372036854775807 := hn0
 have Hc := hide (fun (k : Nat) (hk : k < l.length) => hr.at_ (j := k) (by rw [flat_ln_len]; exact hk))
 have Hl := hide (fun (k : Nat) (hk : k < l.length) => flat_ln_cells l k hk)
 have HPr := hide (fun (x : List UInt8) (w' : World) => says_c (bs x) w')
 obtain ⟨n, hnl⟩ : ∃ n, n = l.length := ⟨_, rfl⟩
 rw [← hnl] at hn ⊢
 have Hn := hide hnl
 have HNo := hide (idxS_none l)
 have HAt := hide (idxS_at l)
 clear hr hn0 hnl
 go_enter Tryz.func126, Tryz.ntmps126
 go_wp2_with fail
 go_loopw [8] (fun i wr => ∃ k : Nat, k ≤ n ∧ i = .int .i64 k ∧ Hid (∀ y ∈ l.take k, sayB y = false) ∧ Hid (wr = w)) (fun i _ => n - (intOf i).toNat)
 case atStart => exact ⟨0, Nat.zero_le _, rfl, hide (by simp), hide rfl⟩
 case round =>
  obtain ⟨k, hk, rfl, hnone, hbel⟩ := hrel
  by_cases hlt2 : k < n
  ·have hkl : k < l.length := by rw [← Hn.out]; exact hlt2
   obtain ⟨b2, o, rfl, _, hb2, hc⟩ := Hc.out k hkl
   obtain ⟨x, hx⟩ : ∃ x, x = l.getD k [] := ⟨_, rfl⟩
   have hpred := HPr.out x w
   have g0 : wr.cell? ⟨b2, o + k, none⟩ = some (.string (bs x)) := by rw [hbel.out, hc k (by rw [flat_ln_len]; exact hkl), Hl.out k hkl, hx]
   rw [hbel.out] at g0 ⊢
   have d1 : decide ((k : Int) < (n : Int)) = true := by simp; exact hlt2
   have d2 : decide (k < n) = true := by simp; exact hlt2
   have j1 : (0 : Int) ≤ (k : Int) := by omega
   have j2 : (k : Int) < (n : Int) := by omega
   have w1 : IntKind.i64.wrap ((k : Int) + 1) = (k : Int) + 1 := IntWalk.i64_in _ (by omega)
   change Calls _ _ _ _ (fun e w' => e = .returned (.bool (sayB x)) ∧ w' = w) at hpred
   have HX := hide hx
   clear hc hbel hx
   cases ho : sayB x with
   | true =>
    rw [ho] at hpred
    have HP := hide hpred
    have HI := hide (HAt.out k hkl hnone.out (by rw [← HX.out]; exact ho))
    clear hpred ho hkl
    go_wp2_with (go_at_call 83; refine HP.out.mono ?_; rintro e w2 ⟨rfl, rfl⟩)
    go_ret
    exact ⟨by rw [HI.out]; rfl, rfl⟩
   | false =>
    rw [ho] at hpred
    have HP := hide hpred
    have HIn : Hid (∀ y ∈ l.take (k + 1), sayB y = false) := by
     intro y hy
     rw [List.take_add_one] at hy
     rcases List.mem_append.1 hy with hy | hy
     ·exact hnone.out y hy
     ·rw [List.getElem?_eq_getElem hkl] at hy
      simp only [Option.toList_some, List.mem_singleton] at hy
      subst hy
      have e : l.getD k [] = l[k] := by simp [List.getD, hkl]
      rw [← e, ← HX.out]
      exact ho
    clear hpred ho hnone hkl
    go_wp2_with (go_at_call 83; refine HP.out.mono ?_; rintro e w2 ⟨rfl, rfl⟩)
    go_roundw
    case rel => exact ⟨k + 1, by omega, by go_num, HIn, hide trivial⟩
    case measure => simp [intOf]; omega
  ·obtain rfl : k = n := by omega
   have HI := hide (HNo.out (by have := hnone.out; rw [Hn.out, List.take_length] at this; exact this))
   have d1 : decide ((k : Int) < (k : Int)) = false := by simp
   have d2 : decide (k < k) = false := by simp
   have HB := hide hbel.out
   clear hbel hnone
   go_wp2_with fail
   go_ret
   exact ⟨by rw [HI.out]; rfl, HB.out⟩
set_option maxRecDepth 100000 in
theorem Contains_c (A : Option Addr) (c : Nat) (l : List (List UInt8)) (w : World) (hr : Rd w NoBlk A (flat encLn l)) (hn0 : l.length ≤ maxLen) :
 Calls Tryz.prog 82 #[.slice A l.length c, .func (.func 83) #[] #[]] w fun e w' => e = .returned (.bool (saysL l)) ∧ w' = w := by
 have HI := hide (IndexS_c A c l w hr hn0)
 have HG := hide (idxS_ge l)
 obtain ⟨k, hk⟩ : ∃ k, k = idxS l := ⟨_, rfl⟩
 rw [← hk] at HI HG
 clear hk hr
 go_enter Tryz.func82, Tryz.ntmps82
 go_wp2_with fail
 refine HI.out.mono ?_
 rintro e w' ⟨rfl, rfl⟩
 go_wp2_with fail
 go_ret
 exact ⟨by rw [← HG.out]; rfl, rfl⟩
end Go.Proofs.YtaioaojfdngfdaaGreatDoor
