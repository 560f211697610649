/- Parts of a chain of lemmas: ParA, ParB. Conditions: those of each theorem. -/
import Derived.Test.YtaioaojfdngfdaaGreatDoorPl18
import Derived.Test.YtaioaojfdngfdaaGreatDoorPl03
set_option linter.unusedVariables false
set_option linter.unusedSimpArgs false
namespace Go.Proofs.YtaioaojfdngfdaaGreatDoor
open Go.RowKit
set_option maxRecDepth 100000
abbrev encUse (u : UseM) : List Value := [.string (bs u.name), .int .i64 u.line, .int .i64 u.col, .int .i64 u.op, .int .i64 u.how]
theorem encUse_one (x : UseM) : ∀ u ∈ encUse x, u.oneCell' = true := by intro u hu; simp at hu; rcases hu with rfl | rfl | rfl | rfl | rfl <;> rfl
/-- the types whose blocks a reader of scripts turns -/
def MutT (T : TypeId) : Bool := T == 76 || (T == 135 || (T == 92 || (T == 94 || (T == 84 || (T == 88 || T == 146)))))
/-- of the old blocks none ahead of B turned, and none but of these types -/
structure OnB (B : Nat) (w w' : World) : Prop where
 on : Only (B ≤ ·) w w'
 keep : ∀ k T cs, Blk w k T cs → MutT T = false → Blk w' k T cs
theorem OnB.refl (B : Nat) (w : World) : OnB B w w := ⟨Only.refl _ w, fun _ _ _ h _ => h⟩
section
variable {B : Nat} {w w' w'' : World}
theorem OnB.trans (h : OnB B w w') (k : OnB B w' w'') : OnB B w w'' := ⟨h.on.trans k.on, fun g T cs hb hm => k.keep g T cs (h.keep g T cs hb hm) hm⟩
theorem OnB.alloc (h : OnB B w w') (o : Obj) : OnB B w (w'.alloc o) := ⟨h.on.alloc o, fun g T cs hb hm => Blk.alloc (h.keep g T cs hb hm) o⟩
theorem OnB.drew (h : OnB B w w') : OnB B w w'.drew := ⟨h.on.drew, fun g T cs hb hm => (h.keep g T cs hb hm).drew⟩
theorem OnB.none (k : Only NoBlk w w') : OnB B w w' := ⟨k.none _, fun g T cs hb hm => Blk.only hb k (fun h => h)⟩
theorem OnB.drewN (h : OnB B w w') (n : Nat) : OnB B w (w'.drewN n) := h.trans (OnB.none (Only.drewN (Only.refl NoBlk _) n))
theorem OnB.of {S : Nat → Prop} {T : TypeId} (k : Only S w w') (hB : ∀ g, S g → B ≤ g) (hT : ∀ g, S g → ∃ cs, Blk w g T cs) (hm : MutT T = true) : OnB B w w' :=
 ⟨k.mono fun g _ hg => hB g hg, fun g T' cs hb hm' => Blk.only hb k (fun hg => by
  obtain ⟨cs', hc⟩ := hT g hg
  exact Blk.ne_ hc hb (fun e => by rw [e, hm'] at hm; exact absurd hm (by decide)) rfl)⟩
theorem okeepB (h : OnB B w w') {p : Addr} (hp : ¬ B ≤ p.block) {v : Value} (hv : w.cell? p = some v) : w'.cell? p = some v := okeep h.on hp hv
end
structure Pp where
 name : ByteArray
 dl : Int
 jm : Int
 L : List OpV
 oA : Option Addr
 oc : Nat
 labels : List (List UInt8 × Int)
 mb : Nat
 uses : List UseM
 uA : Option Addr
 uc : Nat
 head : Bool
 opn : Bool
 t0 : Bool
 t1 : Bool
 line : Int
 wA : Option Addr
 ws : List WordM
 wc : Nat
 width : Int
 st : St
def Pp.fr (p : Pp) : Fr := ⟨.string p.name, .int .i64 p.dl, .int .i64 p.jm, .slice p.oA p.L.length p.oc, .map (some p.mb), .slice p.uA p.uses.length p.uc, .bool p.head, .bool p.opn, .bool p.t0, .bool p.t1, p.line, p.wA, p.ws, p.wc, p.width⟩
structure PAt (w : World) (B a : Nat) (p : Pp) : Prop where
 blk : PBlk w a p.fr p.st
 base : B ≤ a
 ops : OpsOwn w B p.oA p.oc p.L
 uses : w.ownsRow B 135 5 (.slice p.uA p.uses.length p.uc) p.uses.length (flat encUse p.uses)
 lb : LbAt w p.mb p.labels.length p.labels
 lbB : B ≤ p.mb
 ws : w.ownsRow B 128 3 (.slice p.wA p.ws.length p.wc) p.ws.length (flat encW p.ws)
section
variable {w w' : World} {B a : Nat} {p p' : Pp}
theorem PAt.lt (h : PAt w B a p) : a < w.heap.size := h.blk.lt
/-- behind what turned the parser's own block alone -/
theorem PAt.front (h : PAt w B a p) (k : Only (· = a) w w') (hb : PBlk w' a p'.fr p'.st) (e1 : p'.L = p.L := by rfl) (e2 : p'.oA = p.oA := by rfl) (e3 : p'.oc = p.oc := by rfl) (e4 : p'.labels = p.labels := by rfl) (e5 : p'.mb = p.mb := by rfl)
 (e6 : p'.uses = p.uses := by rfl) (e7 : p'.uA = p.uA := by rfl) (e8 : p'.uc = p.uc := by rfl) (e9 : p'.ws = p.ws := by rfl) (e10 : p'.wA = p.wA := by rfl) (e11 : p'.wc = p.wc := by rfl) : PAt w' B a p' := by
 have hS : ∀ g, g = a → ∃ cs, Blk w g 76 cs := fun g hg => by subst hg; exact ⟨_, h.blk⟩
 refine ⟨hb, h.base, ?_, ?_, ?_, by rw [e5]; exact h.lbB, ?_⟩
 ·rw [e1, e2, e3]; exact h.ops.type k hS (by decide) (by decide)
 ·rw [e6, e7, e8]; exact own_type h.uses k hS (by decide)
 ·rw [e4, e5]; exact h.lb.only k (fun e => h.lb.ne h.blk e.symm)
 ·rw [e9, e10, e11]; exact own_type h.ws k hS (by decide)
theorem PAt.same (h : PAt w B a p) (k : Only NoBlk w w') : PAt w' B a p := h.front (k.none _) (Blk.only h.blk k (fun h => h))
theorem PAt.alloc (h : PAt w B a p) (o : Obj) : PAt (w.alloc o) B a p := h.same ((Only.refl NoBlk w).alloc o)
theorem PAt.drew (h : PAt w B a p) : PAt w.drew B a p := h.same (Only.refl NoBlk w).drew
theorem PAt.words (h : PAt w B a p) : Rd w (· = a) p.wA (flat encW p.ws) := by
 rcases h.ws.2 with ⟨hv, hn⟩ | ⟨g, cap, cur, hv, hb, hh, hnc, _, hsz, htk⟩
 ·left
  exact List.eq_nil_of_length_eq_zero (by rw [h.ws.1, hn])
 ·right
  injection hv with h1
  refine ⟨g, 0, h1, fun e => ?_, Blk.lt (t := 128) (cs := cur) hh, fun j hj => ?_⟩
  ·subst e; exact Blk.ne_ (t := 128) (cs := cur) hh h.blk (by decide) rfl
  ·rw [Blk.cell (t := 128) (cs := cur) hh, ← htk, List.getElem?_take, if_pos (by rw [← h.ws.1]; exact hj), Nat.zero_add]
   simp
/-- a use more: the row grown, the parser's cell stored anew -/
theorem PAt.use {uA' : Option Addr} {uc' : Nat} {u : UseM} (h : PAt w B a p) (hg : w.grownBy w' (blkA p.uA)) (ho : w'.ownsRow B 135 5 (.slice uA' (p.uses.length + 1) uc') (p.uses.length + 1) (flat encUse p.uses ++ encUse u))
 (hp : p' = { p with uses := p.uses ++ [u], uA := uA', uc := uc' }) : PAt (w'.setCell ⟨a, 5, none⟩ (.slice uA' (p.uses.length + 1) uc')) B a p' ∧ OnB B w (w'.setCell ⟨a, 5, none⟩ (.slice uA' (p.uses.length + 1) uc')) := by
 subst hp
 have hSu : ∀ g, blkA p.uA = some g → ∃ cs, Blk w g 135 cs := fun g hgg => own_blk h.uses (by rw [blkA_own]; exact hgg)
 have hb1 : PBlk w' a p.fr p.st := Blk.only h.blk (only_grow hg) (fun hgg => by obtain ⟨cs, hc⟩ := hSu a hgg; exact Blk.ne_ hc h.blk (by decide) rfl)
 have hS : ∀ g, g = a → ∃ cs, Blk w' g 76 cs := fun g hg => by subst hg; exact ⟨_, hb1⟩
 have k2 : Only (· = a) w' (w'.setCell ⟨a, 5, none⟩ (.slice uA' (p.uses.length + 1) uc')) := only_cell
 refine ⟨⟨?_, h.base, ?_, ?_, ?_, h.lbB, ?_⟩, ?_⟩
 ·have := hb1.set_ 5 (.slice uA' (p.uses.length + 1) uc')
  unfold PBlk Pp.fr at *
  simp only [List.length_append, List.length_singleton]
  exact this
 ·exact (h.ops.type (only_grow hg) hSu (by decide) (by decide)).type k2 hS (by decide) (by decide)
 ·have e : flat encUse (p.uses ++ [u]) = flat encUse p.uses ++ encUse u := by simp [flat]
  show World.ownsRow _ B _ 5 (.slice uA' (p.uses ++ [u]).length uc') (p.uses ++ [u]).length (flat encUse (p.uses ++ [u]))
  rw [e, List.length_append]
  exact own_type ho k2 hS (by decide)
 ·refine (h.lb.only (only_grow hg) (fun hgg => ?_)).only k2 (fun e => ?_)
  ·obtain ⟨cs, hc⟩ := hSu _ hgg; exact h.lb.ne hc rfl
  ·exact h.lb.ne h.blk e.symm
 ·exact own_type (own_type h.ws (only_grow hg) hSu (by decide)) k2 hS (by decide)
 ·exact (OnB.of (only_grow hg) (fun g hgg => own_ge h.uses g (by rw [blkA_own]; exact hgg)) hSu rfl).trans (OnB.of k2 (fun g hg => by have := h.base; omega) hS rfl)
/-- an op more -/
theorem PAt.app {oA' : Option Addr} {oc' : Nat} {v : OpV} (h : PAt w B a p) (hB : B ≤ w.heap.size) (hg : w.grownBy w' (blkA p.oA)) (hv : v.A = none) (hv2 : v.o.arms = []) (hv3 : v.c = 0)
 (ho : w'.ownsRow B 92 7 (.slice oA' (p.L.length + 1) oc') (p.L.length + 1) (flat encOp p.L ++ encOp v))
 (hp : p' = { p with L := p.L ++ [v], oA := oA', oc := oc' }) : PAt (w'.setCell ⟨a, 3, none⟩ (.slice oA' (p.L.length + 1) oc')) B a p' ∧ OnB B w (w'.setCell ⟨a, 3, none⟩ (.slice oA' (p.L.length + 1) oc')) := by
 subst hp
 have hSu : ∀ g, blkA p.oA = some g → ∃ cs, Blk w g 92 cs := fun g hgg => own_blk h.ops.row (by rw [blkA_own]; exact hgg)
 have hb1 : PBlk w' a p.fr p.st := Blk.only h.blk (only_grow hg) (fun hgg => by obtain ⟨cs, hc⟩ := hSu a hgg; exact Blk.ne_ hc h.blk (by decide) rfl)
 have hS : ∀ g, g = a → ∃ cs, Blk w' g 76 cs := fun g hg => by subst hg; exact ⟨_, hb1⟩
 have k2 : Only (· = a) w' (w'.setCell ⟨a, 3, none⟩ (.slice oA' (p.L.length + 1) oc')) := only_cell
 refine ⟨⟨?_, h.base, ?_, ?_, ?_, h.lbB, ?_⟩, ?_⟩
 ·have := hb1.set_ 3 (.slice oA' (p.L.length + 1) oc')
  unfold PBlk Pp.fr at *
  simp only [List.length_append, List.length_singleton]
  exact this
 ·exact (h.ops.app hB hg hv hv2 hv3 ho).type k2 hS (by decide) (by decide)
 ·exact own_type (own_type h.uses (only_grow hg) hSu (by decide)) k2 hS (by decide)
 ·refine (h.lb.only (only_grow hg) (fun hgg => ?_)).only k2 (fun e => ?_)
  ·obtain ⟨cs, hc⟩ := hSu _ hgg; exact h.lb.ne hc rfl
  ·exact h.lb.ne h.blk e.symm
 ·exact own_type (own_type h.ws (only_grow hg) hSu (by decide)) k2 hS (by decide)
 ·exact (OnB.of (only_grow hg) (fun g hgg => own_ge h.ops.row g (by rw [blkA_own]; exact hgg)) hSu rfl).trans (OnB.of k2 (fun g hg => by have := h.base; omega) hS rfl)
/-- a block of ops or of arms turned -/
theorem PAt.turn {S : Nat → Prop} {T : TypeId} {L' : List OpV} (h : PAt w B a p) (k : Only S w w') (hS : ∀ g, S g → B ≤ g ∧ ∃ cs, Blk w g T cs) (hT : T ≠ 76 ∧ T ≠ 135 ∧ T ≠ 128) (hM : MutT T = true) (ho : OpsOwn w' B p.oA p.oc L') (hl : L'.length = p.L.length)
 (hp : p' = { p with L := L' }) : PAt w' B a p' ∧ OnB B w w' := by
 subst hp
 have hS' : ∀ g, S g → ∃ cs, Blk w g T cs := fun g hg => (hS g hg).2
 refine ⟨⟨?_, h.base, ho, own_type h.uses k hS' hT.2.1, h.lb.only k (fun e => ?_), h.lbB, own_type h.ws k hS' hT.2.2⟩, OnB.of k (fun g hg => (hS g hg).1) hS' hM⟩
 ·have := Blk.only h.blk k (fun hs => by obtain ⟨cs, hc⟩ := hS' a hs; exact Blk.ne_ hc h.blk hT.1 rfl)
  unfold PBlk Pp.fr at *
  simp only [hl]
  exact this
 ·obtain ⟨cs, hc⟩ := hS' _ e; exact h.lb.ne hc rfl
/-- a label more -/
theorem PAt.label {x : List UInt8 × Int} (h : PAt w B a p) (k : Only (· = p.mb) w w') (hl : LbAt w' p.mb (p.labels.length + 1) (x :: p.labels)) (hp : p' = { p with labels := x :: p.labels }) : PAt w' B a p' ∧ OnB B w w' := by
 subst hp
 have hf : ∀ {base size n : Nat} {e : TypeId} {v : Value} {xs : List Value}, w.ownsRow base e size v n xs → w'.ownsRow base e size v n xs := fun ho => own_apart2 ho k (fun g hg => h.lb.own_ne ho g hg)
 refine ⟨⟨Blk.only h.blk k (fun e => h.lb.ne h.blk e), h.base, ⟨hf h.ops.row, fun v hv => hf (h.ops.arms v hv), h.ops.apart⟩, hf h.uses, hl, h.lbB, hf h.ws⟩, ⟨k.mono fun g _ hg => by have := h.lbB; have hg' : g = p.mb := hg; show B ≤ g; omega, fun g T cs hb _ => Blk.only hb k (fun e => h.lb.ne hb e)⟩⟩
end
set_option maxRecDepth 100000
def Pp.pl (p : Pp) : PM := ⟨p.name, p.dl, p.jm, p.L.map (·.o), p.labels, p.uses, p.head, p.opn, p.t0, p.t1, p.line, p.ws, p.width, p.st⟩
/-- what a method of the parser did -/
def Did (w w' : World) (B a : Nat) (m : PM) : Prop := (∃ p', PAt w' B a p' ∧ p'.pl = m) ∧ OnB B w w'
/-- sizes -/
structure MSz (m : PM) (n : Nat) : Prop where
 ops : m.ops.length ≤ n
 uses : m.uses.length ≤ n
 labels : m.labels.length ≤ n
 arms : ∀ o ∈ m.ops, o.arms.length ≤ n
 len : m.ws.length ≤ 1000000000
 at_ : ∀ x ∈ m.ws, x.at_ ≤ 1000000000
 txt : ∀ x ∈ m.ws, x.text.length ≤ 1000000000
 lo : 0 ≤ m.width
 hi : m.width ≤ 1000000000
 nx : m.st.nx ≤ 1000000
 small : n ≤ 1000000
theorem MSz.fr {p : Pp} {n : Nat} (h : MSz p.pl n) : FrOk p.fr := ⟨h.len, h.at_, h.txt, h.lo, h.hi⟩
section
variable {w w' : World} {B a : Nat} {p p' : Pp}
theorem PAt.st (h : PAt w B a p) (k : Only (· = a) w w') {s : St} (hb : PBlk w' a p.fr s) : PAt w' B a { p with st := s } := h.front (p' := { p with st := s }) k hb
theorem PAt.only (h : PAt w B a p) (k : Only (· = a) w w') : OnB B w w' := OnB.of k (fun g hg => by have := h.base; have hg' : g = a := hg; omega) (fun g hg => by have hg' : g = a := hg; subst hg'; exact ⟨_, h.blk⟩) (T := 76) rfl
/-- a cell of the parser's own stored anew -/
theorem PAt.cell (h : PAt w B a p) (i : Nat) (v : Value) (hb : pvV p'.fr p'.st = (pvV p.fr p.st).setIfInBounds i v) (e1 : p'.L = p.L := by rfl) (e2 : p'.oA = p.oA := by rfl) (e3 : p'.oc = p.oc := by rfl) (e4 : p'.labels = p.labels := by rfl) (e5 : p'.mb = p.mb := by rfl)
 (e6 : p'.uses = p.uses := by rfl) (e7 : p'.uA = p.uA := by rfl) (e8 : p'.uc = p.uc := by rfl) (e9 : p'.ws = p.ws := by rfl) (e10 : p'.wA = p.wA := by rfl) (e11 : p'.wc = p.wc := by rfl) : PAt (w.setCell ⟨a, i, none⟩ v) B a p' ∧ OnB B w (w.setCell ⟨a, i, none⟩ v) :=
 ⟨h.front (p' := p') only_cell (by unfold PBlk; rw [hb]; exact Blk.set_ h.blk i v) e1 e2 e3 e4 e5 e6 e7 e8 e9 e10 e11, h.only only_cell⟩
/-- a cell of an op stored anew, but for its arms -/
theorem PAt.setOp {g i j : Nat} {u : Value} {v : OpV} (h : PAt w B a p) (ho : p.oA = some ⟨g, 0, none⟩) (hi : i < p.L.length) (hj : j < 7) (he : encOp v = (encOp (opAt p.L i)).set j u) (hA : v.A = (opAt p.L i).A) (hs : v.o.arms = (opAt p.L i).o.arms) (hc : v.c = (opAt p.L i).c)
 (hp : p' = { p with L := p.L.set i v }) : PAt (w.setCell ⟨g, i * 7 + j, none⟩ u) B a p' ∧ OnB B w (w.setCell ⟨g, i * 7 + j, none⟩ u) := by
 have hrow := h.ops
 rw [ho] at hrow
 refine h.turn (S := (· = g)) (T := 92) only_cell (fun k hk => ?_) ⟨by decide, by decide, by decide⟩ rfl (L' := p.L.set i v) ?_ (List.length_set) hp
 ·subst hk
  exact ⟨own_ge hrow.row k rfl, own_blk hrow.row rfl⟩
 ·rw [ho]
  exact hrow.setOp hi hj he hA hs hc
theorem PAt.armApp {g i : Nat} {A' : Option Addr} {c' : Nat} {v : OpV} {x : ArmM} (h : PAt w B a p) (ho : p.oA = some ⟨g, 0, none⟩) (hi : i < p.L.length) (hg : w.grownBy w' (blkA (opAt p.L i).A))
 (hw : w'.ownsRow B 94 2 (.slice A' ((opAt p.L i).o.arms.length + 1) c') ((opAt p.L i).o.arms.length + 1) (flat encArm (opAt p.L i).o.arms ++ encArm x)) (hn : blkA A' = blkA (opAt p.L i).A ∨ blkA A' = some w.heap.size)
 (hA : v.A = A') (hs : v.o.arms = (opAt p.L i).o.arms ++ [x]) (hc : v.c = c') (he : encOp v = (encOp (opAt p.L i)).set 4 (.slice A' ((opAt p.L i).o.arms.length + 1) c')) (hp : p' = { p with L := p.L.set i v }) :
 PAt (w'.setCell ⟨g, i * 7 + 4, none⟩ (.slice A' ((opAt p.L i).o.arms.length + 1) c')) B a p' ∧ OnB B w (w'.setCell ⟨g, i * 7 + 4, none⟩ (.slice A' ((opAt p.L i).o.arms.length + 1) c')) := by
 have hrow := h.ops
 rw [ho] at hrow
 have harm := h.ops.arms _ (opAt_mem hi)
 have hS1 : ∀ k, blkA (opAt p.L i).A = some k → B ≤ k ∧ ∃ cs, Blk w k 94 cs := fun k hk => by
  have hk' : (armsV (opAt p.L i)).ownBlock = some k := by unfold armsV; rw [blkA_own]; exact hk
  exact ⟨own_ge harm k hk', own_blk harm hk'⟩
 have hfin := hrow.armApp hi hg hw hn hA hs hc he
 subst hp
 have k1 := only_grow hg
 have hT1 : ∀ k, blkA (opAt p.L i).A = some k → ∃ cs, Blk w k 94 cs := fun k hk => (hS1 k hk).2
 have hb1 : PBlk w' a p.fr p.st := Blk.only h.blk k1 (fun hgg => by obtain ⟨cs, hc⟩ := hT1 a hgg; exact Blk.ne_ hc h.blk (by decide) rfl)
 have hbk : ∃ cs, Blk w' g 92 cs := own_blk (own_type (T := 94) hrow.row k1 hT1 (by decide)) rfl
 have hT2 : ∀ k, k = g → ∃ cs, Blk w' k 92 cs := fun k hk => by subst hk; exact hbk
 have k2 : Only (· = g) w' (w'.setCell ⟨g, i * 7 + 4, none⟩ (.slice A' ((opAt p.L i).o.arms.length + 1) c')) := only_cell
 have hlb1 := h.lb.only k1 (fun hgg => by obtain ⟨cs, hc⟩ := hT1 _ hgg; exact h.lb.ne hc rfl)
 refine ⟨⟨?_, h.base, by show OpsOwn _ B p.oA p.oc _; rw [ho]; exact hfin, own_type (T := 92) (own_type (T := 94) h.uses k1 hT1 (by decide)) k2 hT2 (by decide), hlb1.only k2 (fun e => ?_), h.lbB, own_type (T := 92) (own_type (T := 94) h.ws k1 hT1 (by decide)) k2 hT2 (by decide)⟩, ?_⟩
 ·have := Blk.only hb1 k2 (fun e => by obtain ⟨cs, hc⟩ := hT2 a e; exact Blk.ne_ hc hb1 (by decide) rfl)
  unfold PBlk Pp.fr at *
  simp only [List.length_set]
  exact this
 ·obtain ⟨cs, hc⟩ := hT2 _ e
  exact hlb1.ne hc rfl
 ·exact (OnB.of k1 (fun k hk => (hS1 k hk).1) hT1 rfl).trans (OnB.of k2 (fun k hk => by have hk' : k = g := hk; subst hk'; exact own_ge hrow.row k rfl) hT2 rfl)
theorem PAt.armSet {g i k : Nat} {v : OpV} {t : Int} (h : PAt w B a p) (hi : i < p.L.length) (hA : (opAt p.L i).A = some ⟨g, 0, none⟩) (hk : k < (opAt p.L i).o.arms.length)
 (hv : v.A = (opAt p.L i).A) (hc : v.c = (opAt p.L i).c) (hs : v.o.arms = (opAt p.L i).o.arms.set k ⟨(armAt (opAt p.L i).o.arms k).pat, t⟩) (he : encOp v = encOp (opAt p.L i)) (hp : p' = { p with L := p.L.set i v }) :
 PAt (w.setCell ⟨g, k * 2 + 1, none⟩ (.int .i64 t)) B a p' ∧ OnB B w (w.setCell ⟨g, k * 2 + 1, none⟩ (.int .i64 t)) := by
 have harm := h.ops.arms _ (opAt_mem hi)
 refine h.turn (S := (· = g)) (T := 94) only_cell (fun k hk => ?_) ⟨by decide, by decide, by decide⟩ rfl (L' := p.L.set i v) (h.ops.armSet hi hA hk hv hc hs he) (List.length_set) hp
 have hk' : k = g := hk
 subst hk'
 have hob : (armsV (opAt p.L i)).ownBlock = some k := by unfold armsV; rw [blkA_own, hA]; rfl
 exact ⟨own_ge harm k hob, own_blk harm hob⟩
end
end Go.Proofs.YtaioaojfdngfdaaGreatDoor
