/- Parts of a chain of lemmas: Map, Prg3, Prg4, Prg5, Prg6, OpR. Conditions: those of each theorem. -/
import Derived.Test.YtaioaojfdngfdaaGreatDoorPl17
import Derived.Maps.Own
import Derived.Maps.OwnSet
import Derived.Test.YtaioaojfdngfdaaGreatDoorPl12
import Derived.Deep.RegionWith
import Derived.Test.YtaioaojfdngfdaaGreatDoorPl07
import Derived.Laws.OwnMore
set_option linter.unusedVariables false
set_option linter.unusedSimpArgs false
namespace Go.Proofs.YtaioaojfdngfdaaGreatDoor
open Go.RowKit Go.WideMaps
set_option maxRecDepth 100000
theorem Tryz.lawS : Maps.Keyed Tryz.prog 9 := Maps.string_keyed Tryz.underlying9
theorem Tryz.zeroInt (w : World) : (zeroValue 3).run Tryz.prog w = .ok (.int .i64 0) w := by kernel_rfl
/-- block b is a map of at most n entries that reads as the labels -/
def LbAt (w : World) (b n : Nat) (ls : List (List UInt8 × Int)) : Prop :=
 ∃ D : DataW Unit, w.ownsMap Tryz.prog 9 (plainElem Tryz.prog 3) b n D ∧ Maps.IsMap D ∧ ∀ k : List UInt8, Maps.has D (.string k) = (lbF k ls).isSome ∧ ∀ v, lbF k ls = some v → D.atKey (.string k) (.lit (.int .i64 0)) = .lit (.int .i64 v)
theorem lb_made (w : World) : LbAt (w.alloc (.map #[] 0)) w.heap.size 0 [] :=
 ⟨.map [], World.ownsMap_made _ _ _ _, Maps.isMap_empty, fun k => ⟨rfl, fun v h => by cases h⟩⟩
theorem LbAt.drew {w : World} {b n : Nat} {ls : List (List UInt8 × Int)} (h : LbAt w b n ls) : LbAt w.drew b n ls := h
theorem LbAt.only {S : Nat → Prop} {w w' : World} {b n : Nat} {ls : List (List UInt8 × Int)} (h : LbAt w b n ls) (k : Only S w w') (hS : ¬ S b) : LbAt w' b n ls := by
 obtain ⟨D, ⟨es, clock, hb, F, hs, hD⟩, h2⟩ := h
 have hlt : b < w.heap.size := (Array.getElem?_eq_some_iff.1 hb).1
 exact ⟨D, ⟨es, clock, (k.block b hlt hS).trans hb, F, hs, hD⟩, h2⟩
theorem LbAt.ne {w : World} {b n g : Nat} {T : TypeId} {cs : Array Value} {ls : List (List UInt8 × Int)} (h : LbAt w b n ls) (hg : Blk w g T cs) : g ≠ b := by
 obtain ⟨D, ⟨es, clock, hb, _⟩, _⟩ := h
 rintro rfl
 unfold Blk at hg
 rw [hg] at hb
 cases hb
theorem LbAt.own_ne {w : World} {b n base size m : Nat} {e : TypeId} {v : Value} {xs : List Value} {ls : List (List UInt8 × Int)} (h : LbAt w b n ls) (ho : w.ownsRow base e size v m xs) : ∀ g, v.ownBlock = some g → g ≠ b := by
 intro g hg
 rcases ho.2 with ⟨rfl, _⟩ | ⟨g', cap, cur, rfl, _, hb, _⟩
 ·simp [Value.ownBlock] at hg
 ·simp [Value.ownBlock] at hg
  subst hg
  exact h.ne (T := e) (cs := cur) hb
theorem lb_key (k : List UInt8) (hk : k.length ≤ 1000000000) : keyOf Tryz.prog 9 (.string (bs k)) = some (.string k) := by
 have := keyOf_string_mk (P := Tryz.prog) (k := 9) Tryz.underlying9 (s := bs k) (by rw [bs_size]; unfold maxLen; omega)
 rw [this]
theorem lb_look {w : World} {b n : Nat} {ls : List (List UInt8 × Int)} (h : LbAt w b n ls) (k : List UInt8) (hk : k.length ≤ 1000000000) :
 (Instr.lookup 71 (.map (some b)) (.string (bs k)) true).run Tryz.prog w = .ok (.tuple #[.int .i64 ((lbF k ls).getD 0), .bool (lbF k ls).isSome]) w := by
 obtain ⟨D, ho, hm, hD⟩ := h
 obtain ⟨v, ps, hrun, hv⟩ := ho.look_ok Tryz.lawS Tryz.underlying71 (Tryz.zeroInt w) (plainElem_int Tryz.underlying3 (by decide)) (lb_key k hk)
 obtain ⟨c, rfl, hc, _⟩ := plainElem_int_inv Tryz.underlying3 hv
 have hc2 := congrArg Prod.fst hc
 simp only at hc2
 rw [hrun, (hD k).1]
 congr 3
 cases hf : lbF k ls with
 | none =>
  have hn := (hD k).1
  rw [hf] at hn
  rw [Maps.atKey_of_not_has hn] at hc2
  injection hc2 with hc3
  injection hc3 with _ hc4
  rw [← hc4]; rfl
 | some x =>
  rw [(hD k).2 x hf] at hc2
  injection hc2 with hc3
  injection hc3 with _ hc4
  rw [← hc4]; rfl
theorem lb_store {w : World} {b n : Nat} {ls : List (List UInt8 × Int)} (h : LbAt w b n ls) (hn : n ≤ 1000000000) (k : List UInt8) (hk : k.length ≤ 1000000000) (v : Int) (h0 : -1000000000 ≤ v) (h1 : v ≤ 1000000000) :
 ∃ w', (Instr.mapUpdate 71 (.map (some b)) (.string (bs k)) (.int .i64 v)).run Tryz.prog w = .ok () w' ∧ LbAt w' b (n + 1) ((k, v) :: ls) ∧ Only (· = b) w w' := by
 obtain ⟨D, ho, hm, hD⟩ := h
 have hwf : (Lit.int .i64 v).wf = true := by
  show (decide (IntKind.i64.min ≤ v) && decide (v ≤ IntKind.i64.max)) = true
  have e1 : IntKind.i64.min = -9223372036854775808 := by decide
  have e2 : IntKind.i64.max = 9223372036854775807 := by decide
  rw [e1, e2, decide_eq_true (by omega), decide_eq_true (by omega)]
  rfl
 have hkl : WideAt.IsKeyLit (.string k) := by trivial
 obtain ⟨w', hrun, ho', hg⟩ := ho.update Tryz.lawS Tryz.underlying71 (by unfold maxLen; omega) (lb_key k hk) (plainElem_int Tryz.underlying3 hwf)
 refine ⟨w', hrun, ⟨_, ho', hm.put _ _, fun j => ?_⟩, ⟨hg.os, hg.output, hg.size, fun i hi hne => hg.block i hi (fun e => hne (by injection e))⟩⟩
 by_cases hj : k = j
 ·subst hj
  refine ⟨by rw [Maps.has_put_same hm hkl]; simp [lbF], fun x hx => ?_⟩
  rw [Maps.atKey_put_same hm hkl]
  simp [lbF] at hx
  rw [hx]
 ·have hne : Lit.string j ≠ Lit.string k := fun e => hj (by injection e with e; exact e.symm)
  have hl : lbF j ((k, v) :: ls) = lbF j ls := by simp [lbF, hj]
  rw [hl, Maps.has_put_other hne, Maps.atKey_put_other hne]
  exact hD j
end Go.Proofs.YtaioaojfdngfdaaGreatDoor
namespace Go.Proofs.YtaioaojfdngfdaaGreatDoor
open Go.RowKit
theorem Blk.seven {w : World} {g : Nat} {t : TypeId} {a b c d e f h : Value} (hb : Blk w g t #[a, b, c, d, e, f, h]) :
 w.cell? ⟨g, 0, none⟩ = some a ∧ w.cell? ⟨g, 1, none⟩ = some b ∧ w.cell? ⟨g, 2, none⟩ = some c ∧ w.cell? ⟨g, 3, none⟩ = some d ∧ w.cell? ⟨g, 4, none⟩ = some e ∧ w.cell? ⟨g, 5, none⟩ = some f ∧ w.cell? ⟨g, 6, none⟩ = some h := by
 refine ⟨?_, ?_, ?_, ?_, ?_, ?_, ?_⟩ <;> (rw [hb.cell]; rfl)
theorem Blk.two {w : World} {g : Nat} {t : TypeId} {a b : Value} (hb : Blk w g t #[a, b]) : w.cell? ⟨g, 0, none⟩ = some a ∧ w.cell? ⟨g, 1, none⟩ = some b := by
 refine ⟨?_, ?_⟩ <;> (rw [hb.cell]; rfl)
/-- a script's ops in memory -/
def OpsRd (w : World) (M : Nat → Prop) (A : Option Addr) (L : List OpV) : Prop := Rd w M A (flat encOp L) ∧ ∀ v ∈ L, Rd w M v.A (flat encArm v.o.arms)
theorem OpsRd.only {S M : Nat → Prop} {w w' : World} {A : Option Addr} {L : List OpV} (h : OpsRd w M A L) (k : Only S w w') (hs : ∀ b, S b → M b) : OpsRd w' M A L := ⟨h.1.only k hs, fun v hv => (h.2 v hv).only k hs⟩
def opAt (l : List OpV) (k : Nat) : OpV := l.getD k ⟨⟨0, ⟨#[]⟩, 0, 0, [], 0, 0⟩, none, 0⟩
theorem opAt_some {l : List OpV} {k : Nat} (hk : k < l.length) : l[k]? = some (opAt l k) := by simp [opAt, List.getD, hk]
theorem opAt_mem {l : List OpV} {k : Nat} (hk : k < l.length) : opAt l k ∈ l := List.mem_of_getElem? (opAt_some hk)
theorem op_cells {w : World} {M : Nat → Prop} {A : Option Addr} {l : List OpV} (hr : Rd w M A (flat encOp l)) (k : Nat) (hk : k < l.length) : ∃ b o, A = some ⟨b, o, none⟩ ∧ b < w.heap.size ∧
 w.cell? ⟨b, o + k * 7, none⟩ = some (.int .i64 (opAt l k).o.kind) ∧ w.cell? ⟨b, o + k * 7 + 1, none⟩ = some (.string (opAt l k).o.text) ∧ w.cell? ⟨b, o + k * 7 + 2, none⟩ = some (.int .i64 (opAt l k).o.n) ∧
 w.cell? ⟨b, o + k * 7 + 3, none⟩ = some (.int .i64 (opAt l k).o.to) ∧ w.cell? ⟨b, o + k * 7 + 4, none⟩ = some (.slice (opAt l k).A (opAt l k).o.arms.length (opAt l k).c) ∧
 w.cell? ⟨b, o + k * 7 + 5, none⟩ = some (.int .i64 (opAt l k).o.onT) ∧ w.cell? ⟨b, o + k * 7 + 6, none⟩ = some (.int .i64 (opAt l k).o.onE) := by
 obtain ⟨b, o, hA, _, hb, hc⟩ := flat_cells encOp_len hr k _ (opAt_some hk) (by omega)
 exact ⟨b, o, hA, hb, hc 0 (by omega), hc 1 (by omega), hc 2 (by omega), hc 3 (by omega), hc 4 (by omega), hc 5 (by omega), hc 6 (by omega)⟩
/-- a script, of its ops in memory -/
def progM (s : ByteArray) (d j : Int) (L : List OpV) : ProgM := ⟨s, d, j, L.map (·.o)⟩
set_option maxRecDepth 100000
theorem flat_setG {α : Type} (enc : α → List Value) (n j : Nat) (u : Value) (x : α) (hj : j < n) : ∀ (L : List α) (i : Nat) (y : α), (∀ a ∈ L, (enc a).length = n) → L[i]? = some y → enc x = (enc y).set j u → flat enc (L.set i x) = (flat enc L).set (i * n + j) u
 | [], i, y, _, h, _ => by simp at h
 | a :: r, 0, y, hl, h, he => by
  simp at h
  subst h
  have := hl a (by simp)
  rw [List.set_cons_zero]
  show enc x ++ flat enc r = (enc a ++ flat enc r).set (0 * n + j) u
  rw [he, List.set_append, if_pos (by omega)]
  simp
 | a :: r, i + 1, y, hl, h, he => by
  have h1 := hl a (by simp)
  rw [List.set_cons_succ]
  show enc a ++ flat enc (r.set i x) = (enc a ++ flat enc r).set ((i + 1) * n + j) u
  rw [List.set_append, if_neg (by rw [h1, Nat.succ_mul]; omega), flat_setG enc n j u x hj r i y (fun b hb => hl b (by simp [hb])) (by simpa using h) he]
  congr 2
  rw [h1, Nat.succ_mul]; omega
theorem own_blk {w : World} {base size n : Nat} {e : TypeId} {v : Value} {xs : List Value} (h : w.ownsRow base e size v n xs) {g : Nat} (hg : v.ownBlock = some g) : ∃ cs, Blk w g e cs := by
 rcases h.2 with ⟨rfl, _⟩ | ⟨g', cap, cur, rfl, _, hb, _⟩
 ·simp [Value.ownBlock] at hg
 ·simp [Value.ownBlock] at hg
  subst hg
  exact ⟨cur, hb⟩
/-- behind what turned blocks of another type alone -/
theorem own_type {w w' : World} {base size n : Nat} {e T : TypeId} {v : Value} {xs : List Value} {S : Nat → Prop} (h : w.ownsRow base e size v n xs) (k : Only S w w') (hS : ∀ g, S g → ∃ cs, Blk w g T cs) (hT : T ≠ e) : w'.ownsRow base e size v n xs :=
 own_only h k fun g cs hs hb => by
  obtain ⟨cs', hb'⟩ := hS g hs
  exact Blk.ne_ hb' hb hT rfl
theorem own_apart2 {w w' : World} {base size n : Nat} {e : TypeId} {v : Value} {xs : List Value} {S : Nat → Prop} (h : w.ownsRow base e size v n xs) (k : Only S w w') (hS : ∀ g, v.ownBlock = some g → ¬ S g) : w'.ownsRow base e size v n xs := by
 obtain ⟨hl, h2⟩ := h
 refine ⟨hl, ?_⟩
 rcases h2 with ⟨hv, hn⟩ | ⟨g, cap, cur, hv, hb, hh, r⟩
 ·exact Or.inl ⟨hv, hn⟩
 ·exact Or.inr ⟨g, cap, cur, hv, hb, (k.block g (Blk.lt (t := e) (cs := cur) hh) (hS g (by rw [hv]; rfl))).trans hh, r⟩
theorem only_grow {w w1 : World} {row : Option Nat} (h : w.grownBy w1 row) : Only (fun k => row = some k) w w1 :=
 ⟨h.os, h.output, h.size, fun i hi hne => h.block i hi (fun e => hne e.symm)⟩
theorem only_cell {w : World} {g i : Nat} {u : Value} : Only (· = g) w (w.setCell ⟨g, i, none⟩ u) := only_set w g i u
def blkA (A : Option Addr) : Option Nat := A.map (·.block)
theorem blkA_own (A : Option Addr) (n c : Nat) : (Value.slice A n c).ownBlock = blkA A := by cases A <;> rfl
abbrev armsV (v : OpV) : Value := .slice v.A v.o.arms.length v.c
theorem pair_at {L : List OpV} {q r : Nat} {x y : OpV} (h : L.Pairwise (fun u v => ∀ g, blkA u.A = some g → blkA v.A ≠ some g)) (hq : L[q]? = some x) (hr : L[r]? = some y) (hlt : q < r) : ∀ k, blkA x.A = some k → blkA y.A ≠ some k := by
 rw [List.pairwise_iff_getElem] at h
 obtain ⟨h1, rfl⟩ := List.getElem?_eq_some_iff.1 hq
 obtain ⟨h2, rfl⟩ := List.getElem?_eq_some_iff.1 hr
 exact h q r h1 h2 hlt
theorem pair_set {L : List OpV} {i : Nat} {v : OpV} (h : L.Pairwise (fun u v => ∀ g, blkA u.A = some g → blkA v.A ≠ some g)) (hi : i < L.length) (hA : v.A = (opAt L i).A) : (L.set i v).Pairwise (fun u v => ∀ g, blkA u.A = some g → blkA v.A ≠ some g) := by
 have e : (L.set i v).map (·.A) = L.map (·.A) := by
  rw [List.map_set, hA]
  apply List.ext_getElem?
  intro j
  by_cases hj : i = j
  ·subst hj
   rw [List.getElem?_set_self (by simpa using hi), List.getElem?_map, opAt_some hi]
   rfl
  ·rw [List.getElem?_set_ne hj]
 have h2 := (List.pairwise_map (f := fun v : OpV => v.A) (R := fun (x y : Option Addr) => ∀ g, blkA x = some g → blkA y ≠ some g)).2 h
 rw [← e] at h2
 exact List.pairwise_map.1 h2
structure OpsOwn (w : World) (B : Nat) (oA : Option Addr) (oc : Nat) (L : List OpV) : Prop where
 row : w.ownsRow B 92 7 (.slice oA L.length oc) L.length (flat encOp L)
 arms : ∀ v ∈ L, w.ownsRow B 94 2 (armsV v) v.o.arms.length (flat encArm v.o.arms)
 apart : L.Pairwise (fun u v => ∀ g, blkA u.A = some g → blkA v.A ≠ some g)
section
variable {w w' : World} {B : Nat} {oA : Option Addr} {oc : Nat} {L : List OpV} {S : Nat → Prop} {T : TypeId}
theorem OpsOwn.type (h : OpsOwn w B oA oc L) (k : Only S w w') (hS : ∀ g, S g → ∃ cs, Blk w g T cs) (h1 : T ≠ 92) (h2 : T ≠ 94) : OpsOwn w' B oA oc L :=
 ⟨own_type h.row k hS h1, fun v hv => own_type (h.arms v hv) k hS h2, h.apart⟩
theorem OpsOwn.at_ (h : OpsOwn w B oA oc L) {i : Nat} (hi : i < L.length) : ∃ g, oA = some ⟨g, 0, none⟩ ∧ B ≤ g ∧ g < w.heap.size := by
 rcases h.row.2 with ⟨_, hn⟩ | ⟨g, cap, cur, hv, hb, hh, _⟩
 ·omega
 ·injection hv with h1
  exact ⟨g, h1, hb, Blk.lt (t := 92) (cs := cur) hh⟩
theorem flat_at7 {L : List OpV} {i j : Nat} (hi : i < L.length) (hj : j < 7) : (flat encOp L)[i * 7 + j]? = (encOp (opAt L i))[j]? := by
 have := opAt_some hi
 generalize opAt L i = v at *
 induction L generalizing i with
 | nil => simp at hi
 | cons a r ih =>
  show (encOp a ++ flat encOp r)[i * 7 + j]? = _
  cases i with
  | zero =>
   simp at this
   subst this
   rw [List.getElem?_append_left (by rw [encOp_len]; omega)]
   simp
  | succ i =>
   rw [List.getElem?_append_right (by rw [encOp_len, Nat.succ_mul]; omega)]
   rw [← ih (i := i) (by simpa using hi) (by simpa using this)]
   congr 1
   rw [encOp_len, Nat.succ_mul]; omega
theorem OpsOwn.cells {g : Nat} (h : OpsOwn w B (some ⟨g, 0, none⟩) oc L) {i : Nat} (hi : i < L.length) :
 (w.cell? ⟨g, i * 7, none⟩ = some (.int .i64 (opAt L i).o.kind) ∧ w.cell? ⟨g, i * 7 + 1, none⟩ = some (.string (opAt L i).o.text) ∧ w.cell? ⟨g, i * 7 + 2, none⟩ = some (.int .i64 (opAt L i).o.n) ∧
   w.cell? ⟨g, i * 7 + 3, none⟩ = some (.int .i64 (opAt L i).o.to) ∧ w.cell? ⟨g, i * 7 + 4, none⟩ = some (.slice (opAt L i).A (opAt L i).o.arms.length (opAt L i).c) ∧
   w.cell? ⟨g, i * 7 + 5, none⟩ = some (.int .i64 (opAt L i).o.onT) ∧ w.cell? ⟨g, i * 7 + 6, none⟩ = some (.int .i64 (opAt L i).o.onE)) ∧ ∀ j, w.frozen? ⟨g, j, none⟩ = false := by
 have hc := h.row
 have key : ∀ j, j < 7 → w.cell? ⟨g, i * 7 + j, none⟩ = (encOp (opAt L i))[j]? := fun j hj => by rw [hc.cellAt _ (by omega), flat_at7 hi hj]
 exact ⟨⟨key 0 (by omega), key 1 (by omega), key 2 (by omega), key 3 (by omega), key 4 (by omega), key 5 (by omega), key 6 (by omega)⟩, hc.frozenAt⟩
theorem own_newer {base size n : Nat} {e : TypeId} {v : Value} {xs : List Value} (h : w.ownsRow base e size v n xs) {g : Nat} (hg : v.ownBlock = some g) : g < w.heap.size := by
 rcases h.2 with ⟨rfl, _⟩ | ⟨g', cap, cur, rfl, _, hb, _⟩
 ·simp [Value.ownBlock] at hg
 ·simp [Value.ownBlock] at hg
  subst hg
  exact Blk.lt (t := e) (cs := cur) hb
/-- behind append of an op without arms -/
theorem OpsOwn.app {oA' : Option Addr} {oc' : Nat} {v : OpV} (h : OpsOwn w B oA oc L) (hB : B ≤ w.heap.size) (hg : w.grownBy w' (blkA oA)) (hv : v.A = none) (hv2 : v.o.arms = []) (hv3 : v.c = 0)
 (ho : w'.ownsRow B 92 7 (.slice oA' (L.length + 1) oc') (L.length + 1) (flat encOp L ++ encOp v)) : OpsOwn w' B oA' oc' (L ++ [v]) := by
 refine ⟨?_, ?_, ?_⟩
 ·have e : flat encOp (L ++ [v]) = flat encOp L ++ encOp v := by simp [flat]
  rw [e, List.length_append]
  exact ho
 ·intro u hu
  rcases List.mem_append.1 hu with hu | hu
  ·refine own_type (T := 92) (h.arms u hu) (only_grow hg) (fun g hgg => ?_) (by decide)
   exact own_blk h.row (by rw [blkA_own]; exact hgg)
  ·simp at hu
   subst hu
   unfold armsV
   rw [hv, hv2, hv3]
   exact World.ownsRow_nil _ _ _ _
 ·rw [List.pairwise_append]
  refine ⟨h.apart, by simp, fun a _ b hb g _ => ?_⟩
  simp at hb
  subst hb
  rw [hv]
  simp [blkA]
/-- a cell of an op stored anew, but for its arms -/
theorem OpsOwn.setOp {g i j : Nat} {u : Value} {v : OpV} (h : OpsOwn w B (some ⟨g, 0, none⟩) oc L) (hi : i < L.length) (hj : j < 7) (he : encOp v = (encOp (opAt L i)).set j u) (hA : v.A = (opAt L i).A) (hs : v.o.arms = (opAt L i).o.arms) (hc : v.c = (opAt L i).c) :
 OpsOwn (w.setCell ⟨g, i * 7 + j, none⟩ u) B (some ⟨g, 0, none⟩) oc (L.set i v) := by
 have hst := h.row.stored (i * 7 + j) u
 have hbk : ∃ cs, Blk w g 92 cs := own_blk h.row rfl
 have hT : ∀ x ∈ L, (w.setCell ⟨g, i * 7 + j, none⟩ u).ownsRow B 94 2 (armsV x) x.o.arms.length (flat encArm x.o.arms) := fun x hx =>
  own_type (T := 92) (h.arms x hx) only_cell (fun k hk => by subst hk; exact hbk) (by decide)
 refine ⟨?_, ?_, ?_⟩
 ·rw [List.length_set, flat_setG encOp 7 j u v hj L i _ (fun a _ => encOp_len a) (opAt_some hi) he]
  exact hst.1
 ·intro x hx
  rcases List.mem_or_eq_of_mem_set hx with hx | rfl
  ·exact hT x hx
  ·have := hT _ (opAt_mem hi)
   unfold armsV at this ⊢
   rw [hA, hs, hc]
   exact this
 ·exact pair_set h.apart hi hA
/-- an arm more of an op -/
theorem OpsOwn.armApp {g i : Nat} {A' : Option Addr} {c' : Nat} {v : OpV} {a : ArmM} (h : OpsOwn w B (some ⟨g, 0, none⟩) oc L) (hi : i < L.length) (hg : w.grownBy w' (blkA (opAt L i).A))
 (ho : w'.ownsRow B 94 2 (.slice A' ((opAt L i).o.arms.length + 1) c') ((opAt L i).o.arms.length + 1) (flat encArm (opAt L i).o.arms ++ encArm a)) (hn : blkA A' = blkA (opAt L i).A ∨ blkA A' = some w.heap.size)
 (hA : v.A = A') (hs : v.o.arms = (opAt L i).o.arms ++ [a]) (hc : v.c = c') (he : encOp v = (encOp (opAt L i)).set 4 (.slice A' ((opAt L i).o.arms.length + 1) c')) :
 OpsOwn (w'.setCell ⟨g, i * 7 + 4, none⟩ (.slice A' ((opAt L i).o.arms.length + 1) c')) B (some ⟨g, 0, none⟩) oc (L.set i v) := by
 have hrow : w'.ownsRow B 92 7 (.slice (some ⟨g, 0, none⟩) L.length oc) L.length (flat encOp L) := own_type (T := 94) h.row (only_grow hg) (fun k hk => own_blk (h.arms _ (opAt_mem hi)) (by unfold armsV; rw [blkA_own]; exact hk)) (by decide)
 have hbk : ∃ cs, Blk w' g 92 cs := own_blk hrow rfl
 have hst := hrow.stored (i * 7 + 4) (.slice A' ((opAt L i).o.arms.length + 1) c')
 have hset : ∀ {n' : Nat} {x : Value} {xs : List Value}, w'.ownsRow B 94 2 x n' xs → (w'.setCell ⟨g, i * 7 + 4, none⟩ (.slice A' ((opAt L i).o.arms.length + 1) c')).ownsRow B 94 2 x n' xs := fun hx =>
  own_type (T := 92) hx only_cell (fun k hk => by subst hk; exact hbk) (by decide)
 have hold : ∀ (q : Nat) (x : OpV), L[q]? = some x → q ≠ i → ∀ k, blkA x.A = some k → blkA (opAt L i).A ≠ some k := by
  intro q x hq hne k hk hk2
  have hqi := opAt_some hi
  rcases Nat.lt_or_ge q i with hlt | hge
  ·exact pair_at h.apart hq hqi hlt k hk hk2
  ·exact pair_at h.apart hqi hq (by omega) k hk2 hk
 refine ⟨?_, ?_, ?_⟩
 ·rw [List.length_set, flat_setG encOp 7 4 _ v (by omega) L i _ (fun a _ => encOp_len a) (opAt_some hi) he]
  exact hst.1
 ·intro x hx
  rw [List.mem_iff_getElem?] at hx
  obtain ⟨q, hq⟩ := hx
  by_cases hqi : i = q
  ·subst hqi
   rw [List.getElem?_set_self hi] at hq
   injection hq with hq
   subst hq
   unfold armsV
   rw [hA, hs, hc, List.length_append, show flat encArm ((opAt L i).o.arms ++ [a]) = flat encArm (opAt L i).o.arms ++ encArm a by simp [flat]]
   exact hset ho
  ·rw [List.getElem?_set_ne hqi] at hq
   refine hset (own_apart2 (h.arms x (List.mem_of_getElem? hq)) (only_grow hg) (fun k hk hk2 => ?_))
   unfold armsV at hk
   rw [blkA_own] at hk
   exact hold q x hq (fun e => hqi e.symm) k hk hk2
 ·rw [List.pairwise_iff_getElem]
  intro q r hq hr hqr k hk hk2
  rw [List.length_set] at hq hr
  by_cases h1 : i = q
  ·subst h1
   rw [List.getElem_set_self, hA] at hk
   rw [List.getElem_set_ne (by omega)] at hk2
   rcases hn with hn | hn
   ·rw [hn] at hk
    exact hold r _ (List.getElem?_eq_getElem hr) (by omega) k hk2 hk
   ·rw [hn] at hk
    injection hk with hk
    have := own_newer (h.arms _ (List.getElem_mem hr)) (by unfold armsV; rw [blkA_own]; exact hk2)
    omega
  ·rw [List.getElem_set_ne h1] at hk
   by_cases h2 : i = r
   ·subst h2
    rw [List.getElem_set_self, hA] at hk2
    rcases hn with hn | hn
    ·rw [hn] at hk2
     exact hold q _ (List.getElem?_eq_getElem hq) (by omega) k hk hk2
    ·rw [hn] at hk2
     injection hk2 with hk2
     have := own_newer (h.arms _ (List.getElem_mem hq)) (by unfold armsV; rw [blkA_own]; exact hk)
     omega
   ·rw [List.getElem_set_ne h2] at hk2
    exact pair_at h.apart (List.getElem?_eq_getElem hq) (List.getElem?_eq_getElem hr) hqr k hk hk2
theorem flat_setS {v : OpV} : ∀ (L : List OpV) (i : Nat) (y : OpV), L[i]? = some y → encOp v = encOp y → flat encOp (L.set i v) = flat encOp L
 | [], i, y, h, _ => by simp at h
 | a :: r, 0, y, h, he => by
  simp at h
  subst h
  show encOp v ++ flat encOp r = encOp a ++ flat encOp r
  rw [he]
 | a :: r, i + 1, y, h, he => by
  show encOp a ++ flat encOp (r.set i v) = encOp a ++ flat encOp r
  rw [flat_setS r i y (by simpa using h) he]
/-- where an arm leads, stored anew -/
theorem OpsOwn.armSet {g i k : Nat} {v : OpV} {t : Int} (h : OpsOwn w B oA oc L) (hi : i < L.length) (hA : (opAt L i).A = some ⟨g, 0, none⟩) (hk : k < (opAt L i).o.arms.length)
 (hv : v.A = (opAt L i).A) (hc : v.c = (opAt L i).c) (hs : v.o.arms = (opAt L i).o.arms.set k ⟨(armAt (opAt L i).o.arms k).pat, t⟩) (he : encOp v = encOp (opAt L i)) :
 OpsOwn (w.setCell ⟨g, k * 2 + 1, none⟩ (.int .i64 t)) B oA oc (L.set i v) := by
 have hr := h.arms _ (opAt_mem hi)
 unfold armsV at hr
 rw [hA] at hr
 have hst := hr.stored (k * 2 + 1) (.int .i64 t)
 have hbk : ∃ cs, Blk w g 94 cs := own_blk hr rfl
 have hfl : flat encArm v.o.arms = (flat encArm (opAt L i).o.arms).set (k * 2 + 1) (.int .i64 t) := by
  rw [hs]
  exact flat_setG encArm 2 1 _ _ (by omega) _ k _ (fun a _ => encArm_len a) (armAt_some hk) rfl
 have hln : v.o.arms.length = (opAt L i).o.arms.length := by rw [hs, List.length_set]
 refine ⟨?_, ?_, pair_set h.apart hi hv⟩
 ·rw [List.length_set, flat_setS L i _ (opAt_some hi) he]
  exact own_type (T := 94) h.row only_cell (fun k hk => by subst hk; exact hbk) (by decide)
 ·intro x hx
  rw [List.mem_iff_getElem?] at hx
  obtain ⟨q, hq⟩ := hx
  by_cases hqi : i = q
  ·subst hqi
   rw [List.getElem?_set_self hi] at hq
   injection hq with hq
   subst hq
   unfold armsV
   rw [hv, hA, hc, hln, hfl]
   exact hst.1
  ·rw [List.getElem?_set_ne hqi] at hq
   refine own_apart2 (h.arms x (List.mem_of_getElem? hq)) only_cell (fun k' hk' hk2 => ?_)
   unfold armsV at hk'
   rw [blkA_own] at hk'
   subst hk2
   have hqi' := opAt_some hi
   rcases Nat.lt_or_ge q i with hlt | hge
   ·exact pair_at h.apart hq hqi' hlt _ hk' (by rw [hA]; rfl)
   ·exact pair_at h.apart hqi' hq (by omega) _ (by rw [hA]; rfl) hk'
end
end Go.Proofs.YtaioaojfdngfdaaGreatDoor
