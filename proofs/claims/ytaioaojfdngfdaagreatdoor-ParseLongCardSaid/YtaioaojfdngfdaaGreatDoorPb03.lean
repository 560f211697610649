/- Parts of a chain of lemmas: Open, OpenEv, OpenEv2, Shelf, App, Cut, Few, Sort31, TxtA, ParM, DocP. Conditions: those of each theorem. -/
import Derived.Test.YtaioaojfdngfdaaGreatDoorPb02
import Derived.Deep.Slices
import Derived.Deep.Fields
import Derived.ChangeSame
import Derived.Shelf.Strconv.Itoa0
import Derived.Shelf.Strconv.Itoa1
import Derived.Shelf.LaysM
import Derived.Shelf.Strconv.Itoa2
import Derived.Shelf.Strconv.Itoa3
import Derived.Shelf.Strconv.Itoa4
import Derived.Shelf.Sort.Plain
import Derived.Ground.Names2Prog
import Derived.Shelf.Slices.CompactI
import Derived.Shelf.Slices.SearchI
import Derived.Shelf.Slices.Turned
import Derived.Shelf.Slices.Cells
import Derived.Shelf.Slices.In.SortNone
import Derived.Test.YtaioaojfdngfdaaGreatDoorPb01
import Derived.Maps.AppendAt
import Derived.Deep.AppendLies
import Derived.Deep.RegionLaw
import Derived.BigRegion
import Derived.RegionTactic
import Derived.BigQuiet
import Derived.Deep.QuietTactic
import Derived.Deep.RegionHeld3
import Derived.Deep.DeepCutAuto
import Derived.Deep.CutBlock
import Derived.Ground.NamesProg
import Derived.Lib.SortBridge
import Derived.Lib.ItoaNum
import Derived.WalkSmall
namespace Go.Proofs.YtaioaojfdngfdaaGreatDoor
open Go.ChangeShapes Go.WideShapes Go.ChangeAt Go.RowKit Go.Deep

def flat {α : Type} (enc : α → List Value) (l : List α) : List Value := (l.map enc).flatten
theorem flat_nil {α : Type} (enc : α → List Value) : flat enc [] = [] := rfl
theorem flat_cons {α : Type} (enc : α → List Value) (a : α) (l : List α) : flat enc (a :: l) = enc a ++ flat enc l := rfl
theorem flat_append {α : Type} (enc : α → List Value) (a b : List α) : flat enc (a ++ b) = flat enc a ++ flat enc b := by simp [flat]
theorem flat_len {α : Type} (enc : α → List Value) (n : Nat) (h : ∀ a, (enc a).length = n) (l : List α) : (flat enc l).length = l.length * n := by
 induction l with
 | nil => simp [flat]
 | cons a l ih => rw [flat_cons, List.length_append, h, ih, List.length_cons, Nat.add_mul]; omega
theorem flat_at {α : Type} (enc : α → List Value) (n : Nat) (h : ∀ a, (enc a).length = n) : ∀ (l : List α) (k j : Nat) (a : α), l[k]? = some a → j < n → (flat enc l)[k * n + j]? = (enc a)[j]?
 | [], k, j, a, hk, _ => by simp at hk
 | b :: l, 0, j, a, hk, hj => by
  simp at hk
  subst hk
  rw [flat_cons, List.getElem?_append_left (by rw [h]; omega)]
  simp
 | b :: l, k + 1, j, a, hk, hj => by
  have hk' : l[k]? = some a := by simpa using hk
  rw [flat_cons, List.getElem?_append_right (by rw [h, Nat.add_mul]; omega), h, ← flat_at enc n h l k j a hk' hj]
  congr 1
  rw [Nat.add_mul]; omega
theorem exists_map {α : Type} {enc : α → List Value} {ok : α → Prop} : ∀ (xs : List (List Value)), (∀ x ∈ xs, ∃ a, x = enc a ∧ ok a) → ∃ l : List α, xs = l.map enc ∧ ∀ a ∈ l, ok a
 | [], _ => ⟨[], rfl, by simp⟩
 | x :: xs, h => by
  obtain ⟨a, ha, oka⟩ := h x (by simp)
  obtain ⟨l, hl, okl⟩ := exists_map xs (fun y hy => h y (by simp [hy]))
  exact ⟨a :: l, by rw [ha, hl]; rfl, by simp; exact ⟨oka, okl⟩⟩

section
variable {H : Type} {enc : TypeId × Value → H} {P : Program} {w : World}
theorem spot_none {a : Addr} {v : Value} (h : w.cell? a = some v) : a.spot = none := by
 unfold World.cell? at h
 split at h
 ·split at h
  ·cases h
  ·rename_i hs
   simpa using hs
 ·cases h
theorem add_block (a : Addr) (n : Nat) : (a.add n).block = a.block := by unfold Addr.add; split <;> rfl

/-- an argument that is a slice: its elements' cells, each as Q says -/
theorem open_rows {t e : TypeId} {v : Value} {d : DataW H} {p : List MemPlace} {sz : Nat} {Q : List Value → Prop} (ht : P.underlying t = some (.slice e)) (hsz : P.cellsOf e = sz) (hpos : 0 < sz)
 (hv : ∃ a n c, v = .slice a n c) (h : DataW.Trod enc P w 0 (fun _ => true) true t v d p) (hQ : ∀ fuel cs x, DataW.trod enc P w 0 (fun _ => true) true fuel e cs = some x → Q cs) :
 ∃ (A : Option Addr) (n c : Nat) (xs : List (List Value)), v = .slice A n c ∧ xs.length = n ∧ n ≤ c ∧ c ≤ maxLen ∧ Rd w NoBlk A xs.flatten ∧ (∀ x ∈ xs, x.length = sz ∧ Q x) ∧
  (d = .nil ∧ n = 0 ∨ ∃ el sp, d = .slice el sp ∧ el.length = n) := by
 obtain ⟨a0, n0, c0, rfl⟩ := hv
 obtain ⟨fuel, hf⟩ := h
 rcases open_slice ht hf with ⟨hcs, hx⟩ | ⟨a, len, cap, m, n, D, Pl, hcs, _, hl, hm, hmm, hx, hi⟩
 ·have e0 : Value.slice a0 n0 c0 = .slice none 0 0 := by simpa [Value.cells] using hcs
  injection e0 with e1 e2 e3
  subst e1 e2 e3
  simp only [Prod.mk.injEq] at hx
  exact ⟨none, 0, 0, [], rfl, rfl, Nat.le_refl _, by simp [maxLen], Or.inl rfl, by simp, Or.inl ⟨hx.1, rfl⟩⟩
 ·have e0 : Value.slice a0 n0 c0 = .slice (some a) len cap := by simpa [Value.cells] using hcs
  injection e0 with e1 e2 e3
  subst e1 e2 e3
  have hm' : m = c0 := by simpa using hmm
  have hcell : ∀ i, i < n0 → ∃ cs', w.cells? 0 (a.add (i * sz)) sz = some cs' ∧ cs'.length = sz ∧ Q cs' ∧ ∀ j, j < sz → w.cell? (a.add (i * sz + j)) = cs'[j]? := by
   intro i hlt
   obtain ⟨cs', hc, ht'⟩ := hi i (by omega)
   rw [hsz] at hc
   obtain ⟨_, hcl, hat⟩ := World.cells?_some hc
   refine ⟨cs', hc, hcl, hQ _ _ _ ht', fun j hj => ?_⟩
   rw [← Go.Deep.add_add]
   exact hat j hj
  have hxs : ∃ xs : List (List Value), xs.length = n0 ∧ (∀ x ∈ xs, x.length = sz ∧ Q x) ∧ ∀ j, j < n0 * sz → w.cell? (a.add j) = xs.flatten[j]? := by
   clear hi hf hx hcs hm hmm hm' D Pl
   induction n0 with
   | zero => exact ⟨[], rfl, by simp, by simp⟩
   | succ k ih =>
    obtain ⟨xs, h1, h2, h3⟩ := ih (by omega) (fun i hik => hcell i (by omega))
    obtain ⟨cs', _, hcl, hq, hat⟩ := hcell k (by omega)
    refine ⟨xs ++ [cs'], by simp [h1], ?_, fun j hj => ?_⟩
    ·intro x hx
     simp only [List.mem_append, List.mem_singleton] at hx
     rcases hx with hx | rfl
     ·exact h2 x hx
     ·exact ⟨hcl, hq⟩
    ·have hfl : xs.flatten.length = k * sz := by
      have := flat_len (fun x : List Value => x.take sz ++ List.replicate (sz - x.length) undef) sz (fun a => by simp; omega) xs
      rw [h1] at this
      rw [← this]
      unfold flat
      congr 1
      congr 1
      have : xs.map (fun x : List Value => x.take sz ++ List.replicate (sz - x.length) undef) = xs.map id := List.map_congr_left (fun x hx => by
       have hl := (h2 x hx).1
       rw [List.take_of_length_le (by omega)]; simp [hl])
      rw [this]; simp
     rw [List.flatten_append]
     by_cases hjk : j < k * sz
     ·rw [List.getElem?_append_left (by omega), h3 j hjk]
     ·rw [List.getElem?_append_right (by omega), hfl]
      have hs := hat (j - k * sz) (by rw [Nat.add_mul] at hj; omega)
      rw [show k * sz + (j - k * sz) = j by omega] at hs
      rw [hs]; simp
  obtain ⟨xs, h1, h2, h3⟩ := hxs
  refine ⟨some a, n0, c0, xs, rfl, h1, hl, hm, ?_, h2, Or.inr ⟨_, _, by simp only [Prod.mk.injEq] at hx; exact hx.1, by simp⟩⟩
  by_cases hn : n0 = 0
  ·subst hn
   have : xs = [] := List.eq_nil_of_length_eq_zero h1
   subst this
   exact Or.inl rfl
  ·right
   have hfl : xs.flatten.length = n0 * sz := by
    clear h3 hcell hi hf hx hcs
    subst h1
    clear hl hn hmm
    induction xs with
    | nil => simp
    | cons x xs ih =>
     rw [List.flatten_cons, List.length_append, ih (fun y hy => h2 y (by simp [hy])), (h2 x (by simp)).1, List.length_cons, Nat.add_mul]; omega
   have hp0 : 0 < n0 * sz := Nat.mul_pos (by omega) hpos
   have hc0 := h3 0 hp0
   rw [List.getElem?_eq_getElem (by omega)] at hc0
   have hs := spot_none hc0
   have hblk := World.block_lt_of_cell? w _ hc0
   obtain ⟨b, o, s⟩ := a
   have hs' : s = none := by
    unfold Addr.add at hs
    simpa using hs
   subst hs'
   refine ⟨b, o, rfl, fun h => h, by simpa [add_block] using hblk, fun j hj => ?_⟩
   have := h3 j (by omega)
   rw [Addr.add_lit] at this
   exact this

/-- a struct of one-cell fields: its cells, one a field -/
theorem struct_cells {t : TypeId} {fs : Array Field} {fuel : Nat} {cs : List Value} {x : DataW H × List MemPlace} {base : Nat} {spare : Nat → Bool} {held : Bool} (hs : P.underlying t = some (.struct fs)) (hone : oneCellFields P fs = true) (hC : P.cellsOf t = fs.size)
 (h : DataW.trod enc P w base spare held fuel t cs = some x) :
 cs.length = fs.size ∧ ∀ (i : Nat) (f : Field), fs[i]? = some f → ∃ v y n, cs[i]? = some v ∧ DataW.trod enc P w base spare held n f.type [v] = some y := by
 obtain ⟨ys, n', _, hy, hlen, hyl, hf⟩ := DataW.trod_struct hs h
 refine ⟨by rw [hlen, hC], fun j f hj => ?_⟩
 obtain ⟨ho, hk⟩ := hone_of hone j f hj
 have hjl : j < fs.size := (Array.getElem?_eq_some_iff.1 hj).1
 have h1 := hf j f hj
 rw [ho, hk] at h1
 have hone' : (cs.drop j).take 1 = [cs[j]'(by omega)] := by
  rw [List.drop_eq_getElem_cons (by omega)]
  rfl
 rw [hone'] at h1
 have hys : ys[j]? = some (ys[j]'(by omega)) := List.getElem?_eq_getElem (by omega)
 exact ⟨_, _, n', List.getElem?_eq_getElem (by omega), h1.trans hys⟩
theorem slice_of_cell {t e : TypeId} {v : Value} {n : Nat} {y : DataW H × List MemPlace} (ht : P.underlying t = some (.slice e)) (h : DataW.trod enc P w 0 (fun _ => true) true n t [v] = some y) : ∃ a n c, v = .slice a n c := by
 rcases open_slice ht h with ⟨hcs, _⟩ | ⟨a, len, cap, _, _, _, _, hcs, _⟩
 ·injection hcs with hcs _
  exact ⟨_, _, _, hcs⟩
 ·injection hcs with hcs _
  exact ⟨_, _, _, hcs⟩
theorem trod_of_cell {t : TypeId} {v : Value} {n : Nat} {y : DataW H × List MemPlace} (hv : ∃ a n c, v = .slice a n c) (h : DataW.trod enc P w 0 (fun _ => true) true n t [v] = some y) : DataW.Trod enc P w 0 (fun _ => true) true t v y.1 y.2 := by
 obtain ⟨a, k, c, rfl⟩ := hv
 exact ⟨n, h⟩
end
end Go.Proofs.YtaioaojfdngfdaaGreatDoor
namespace Go.Proofs.YtaioaojfdngfdaaGreatDoor
open Go.ChangeShapes Go.WideShapes Go.ChangeAt Go.RowKit Go.Deep
theorem flat_cells {α : Type} {enc : α → List Value} {n : Nat} (hn : ∀ a, (enc a).length = n) {l : List α} {w : World} {M : Nat → Prop} {A : Option Addr} (hr : Rd w M A (flat enc l)) (k : Nat) (a : α) (hk : l[k]? = some a) (h0 : 0 < n) :
 ∃ b o, A = some ⟨b, o, none⟩ ∧ ¬ M b ∧ b < w.heap.size ∧ ∀ j, j < n → w.cell? ⟨b, o + k * n + j, none⟩ = (enc a)[j]? := by
 have hkl : k < l.length := (List.getElem?_eq_some_iff.1 hk).1
 have hfl := flat_len enc n hn l
 have h1 : k * n + n ≤ l.length * n := by
  rw [← Nat.succ_mul]
  exact Nat.mul_le_mul_right n hkl
 obtain ⟨b, o, hA, hm, hb, hc⟩ := hr.at_ (j := k * n) (by omega)
 refine ⟨b, o, hA, hm, hb, fun j hj => ?_⟩
 rw [Nat.add_assoc, hc (k * n + j) (by omega)]
 exact flat_at enc n hn l k j a hk hj
section
variable {H : Type} {enc : TypeId × Value → H} {P : Program} {w : World}
end
theorem list6 {α : Type} {l : List α} {a b c d e f : α} (h : l.length = 6) (h0 : l[0]? = some a) (h1 : l[1]? = some b) (h2 : l[2]? = some c) (h3 : l[3]? = some d) (h4 : l[4]? = some e) (h5 : l[5]? = some f) : l = [a, b, c, d, e, f] := by
 match l, h with
 | [x0, x1, x2, x3, x4, x5], _ => simp at h0 h1 h2 h3 h4 h5; rw [h0, h1, h2, h3, h4, h5]
end Go.Proofs.YtaioaojfdngfdaaGreatDoor
namespace Go.Proofs.YtaioaojfdngfdaaGreatDoor
open Go.ChangeShapes Go.WideShapes Go.ChangeAt Go.RowKit Go.Deep
/-- a number of 64 bits -/
def I64 (n : Int) : Prop := -9223372036854775808 ≤ n ∧ n ≤ 9223372036854775807
theorem I64.of_wf {n : Int} (h : (Lit.int .i64 n).wf = true) : I64 n := by
 simp only [Lit.wf, Bool.and_eq_true, decide_eq_true_eq] at h
 have h1 : (-9223372036854775808 : Int) ≤ n := h.1
 have h2 : n ≤ 9223372036854775807 := h.2
 exact ⟨h1, h2⟩
structure StpOk (x : Stp) : Prop where
 tick : I64 x.tick
 at_ : I64 x.at_
 what : I64 x.what
 arm : I64 x.arm
 n : I64 x.n
 status : I64 x.status
structure EvOk (x : Ev) : Prop where
 k : I64 x.k
 id : I64 x.id
 n : I64 x.n
 tick : I64 x.tick
 err : I64 x.err
 st : StpOk x.st
section
variable {H : Type} {enc : TypeId × Value → H} {P : Program} {w : World}
end
end Go.Proofs.YtaioaojfdngfdaaGreatDoor
namespace Go.Proofs
open Go.Shelf
end Go.Proofs
namespace Go.Proofs.YtaioaojfdngfdaaGreatDoor
open Go.RowKit
set_option linter.unusedVariables false

section
variable {P : Program} (w : World)
theorem run_append_of_nil (base : Nat) (t ty e : TypeId) (i : TypeInfo) (size : Nat) (ht : P.underlying t = some (.slice e)) (hi : P.info? e = some i)
 (v : Value) (n : Nat) (xs : List Value) (hown : w.ownsRow base e size v n xs) (c : Nat) : (Builtin.append_ #[t, t] ty #[v, .slice none 0 c]).run P w = .ok v w := by
 rcases hown.2 with ⟨rfl, rfl⟩ | ⟨g, cap, cur, rfl, _, _, hnc, _⟩
 ·simp [Builtin.append_, run_underlying ht, sizeOf, typeInfo, hi, Builtin.lenOf, Builtin.firstCells]
 ·simp [Builtin.append_, run_underlying ht, sizeOf, typeInfo, hi, Builtin.lenOf, Builtin.firstCells, hnc, storeCells]
theorem run_append_rd (base : Nat) (t ty e : TypeId) (i : TypeInfo) (z : Value) (size bytes : Nat) (ht : P.underlying t = some (.slice e)) (hi : P.info? e = some i) (hz : i.zero = some z)
 (hsize : i.size = size) (hby : i.bytes = bytes) (hzs : z.cells.size = size) (hsz : 0 < size)
 (v : Value) (n : Nat) (xs : List Value) (hown : w.ownsRow base e size v n xs)
 (M : Nat → Prop) (A : Option Addr) (m c : Nat) (news : List Value) (hr : Rd w M A news) (hl : news.length = m * size) (h1 : ∀ u ∈ news, u.oneCell' = true)
 (h63 : n + m ≤ maxLen) (hbytes : (n + m) * bytes ≤ 140737488355328) (hbase : base ≤ w.heap.size) :
 ∃ v' w', (Builtin.append_ #[t, t] ty #[v, .slice A m c]).run P w = .ok v' w' ∧ w'.ownsRow base e size v' (n + m) (xs ++ news) ∧ w.grownBy w' v.ownBlock ∧
  (v'.ownBlock = v.ownBlock ∨ v'.ownBlock = some w.heap.size) := by
 rcases hr with hn | ⟨b, o, hA, _, _, hc⟩
 ·subst hn
  have hm : m = 0 := by
   rcases Nat.eq_zero_or_pos m with h0 | h0
   ·exact h0
   ·have := Nat.mul_pos h0 hsz
    simp at hl; omega
  subst hm
  cases A with
  | none => exact ⟨v, w, run_append_of_nil w base t ty e i size ht hi v n xs hown c, by simpa using hown, World.grownBy.refl w _, .inl rfl⟩
  | some ad =>
   obtain ⟨v', w', hrun, h2, h3, _, h5⟩ := run_append_own_at (P := P) w base t ty e i z size bytes ht hi hz hsize hby hzs hsz v n xs hown ad 0 c [] (by simp) (by simp) (by simp) h63 hbytes hbase
   exact ⟨v', w', hrun, h2, h3, h5⟩
 ·subst hA
  have hcells : ∀ j u, news[j]? = some u → w.cell? ((⟨b, o, none⟩ : Addr).add j) = some u := by
   intro j u hu
   rw [Addr.add_lit, ← hu]
   exact hc j (List.getElem?_eq_some_iff.1 hu).1
  obtain ⟨v', w', hrun, h2, h3, _, h5⟩ := run_append_own_at (P := P) w base t ty e i z size bytes ht hi hz hsize hby hzs hsz v n xs hown ⟨b, o, none⟩ m c news hl hcells h1 h63 hbytes hbase
  exact ⟨v', w', hrun, h2, h3, h5⟩
theorem wp_append_rd {o : Oper} {a : Act} {K : Act → World → Prop} {Q : Exit → Act → World → Prop} (s x : Operand) (t : TypeId)
 (ho : o.op = .call { callee := .builtin .append, args := #[s, x], argTypes := #[t, t] })
 (base : Nat) (e : TypeId) (i : TypeInfo) (z : Value) (size bytes : Nat) (ht : P.underlying t = some (.slice e)) (hi : P.info? e = some i) (hz : i.zero = some z)
 (hsize : i.size = size) (hby : i.bytes = bytes) (hzs : z.cells.size = size) (hsz : 0 < size)
 (v : Value) (n : Nat) (xs : List Value) (hs : a.eval s = v) (hown : w.ownsRow base e size v n xs)
 (M : Nat → Prop) (A : Option Addr) (m c : Nat) (news : List Value) (hx : a.eval x = .slice A m c) (hr : Rd w M A news) (hl : news.length = m * size) (h1 : ∀ u ∈ news, u.oneCell' = true)
 (h63 : n + m ≤ maxLen) (hbytes : (n + m) * bytes ≤ 140737488355328) (hbase : base ≤ w.heap.size)
 (h : ∀ v' w', w'.ownsRow base e size v' (n + m) (xs ++ news) → w.grownBy w' v.ownBlock → (v'.ownBlock = v.ownBlock ∨ v'.ownBlock = some w.heap.size) → K (a.put o.dst v') w') : o.wp P a w K Q := by
 obtain ⟨v', w', hrun, h2, h3, h4⟩ := run_append_rd (P := P) w base t o.type e i z size bytes ht hi hz hsize hby hzs hsz v n xs hown M A m c news hr hl h1 h63 hbytes hbase
 unfold Oper.wp execOp
 simp only [ho, resolve, invoke, builtin, Sem.run_bind, Sem.run_pure, Result.andThen_ok, List.map_toArray, List.map_cons, List.map_nil, hs, hx, hrun]
 exact h v' w' h2 h3 h4
theorem wpList_append_rd {ops : Array Oper} {rest : List Oper} {o : Oper} {a : Act} {Q : Exit → Act → World → Prop} (hgd : o.guard = none) (s x : Operand) (t : TypeId)
 (ho : o.op = .call { callee := .builtin .append, args := #[s, x], argTypes := #[t, t] })
 (base : Nat) (e : TypeId) (i : TypeInfo) (z : Value) (size bytes : Nat) (ht : P.underlying t = some (.slice e)) (hi : P.info? e = some i) (hz : i.zero = some z)
 (hsize : i.size = size) (hby : i.bytes = bytes) (hzs : z.cells.size = size) (hsz : 0 < size)
 (v : Value) (n : Nat) (xs : List Value) (hs : a.eval s = v) (hown : w.ownsRow base e size v n xs)
 (M : Nat → Prop) (A : Option Addr) (m c : Nat) (news : List Value) (hx : a.eval x = .slice A m c) (hr : Rd w M A news) (hl : news.length = m * size) (h1 : ∀ u ∈ news, u.oneCell' = true)
 (h63 : n + m ≤ maxLen) (hbytes : (n + m) * bytes ≤ 140737488355328) (hbase : base ≤ w.heap.size)
 (h : ∀ v' w', w'.ownsRow base e size v' (n + m) (xs ++ news) → w.grownBy w' v.ownBlock → (v'.ownBlock = v.ownBlock ∨ v'.ownBlock = some w.heap.size) → wpList P ops Q rest (a.put o.dst v') w') : wpList P ops Q (o :: rest) a w :=
 wpList_plain hgd fun _ hK => wp_append_rd w s x t ho base e i z size bytes ht hi hz hsize hby hzs hsz v n xs hs hown M A m c news hx hr hl h1 h63 hbytes hbase fun v' w' h2 h3 h4 => hK _ _ (h v' w' h2 h3 h4)
theorem step_append_rd {ops : Array Oper} {o : Oper} {a : Act} {K : Act → World → Prop} {Q : Exit → Act → World → Prop} {E : Prop} (hgd : o.guard = none) (s x : Operand) (t : TypeId)
 (ho : o.op = .call { callee := .builtin .append, args := #[s, x], argTypes := #[t, t] })
 (base : Nat) (e : TypeId) (i : TypeInfo) (z : Value) (size bytes : Nat) (ht : P.underlying t = some (.slice e)) (hi : P.info? e = some i) (hz : i.zero = some z)
 (hsize : i.size = size) (hby : i.bytes = bytes) (hzs : z.cells.size = size) (hsz : 0 < size)
 (v : Value) (n : Nat) (xs : List Value) (hs : a.eval s = v) (hown : w.ownsRow base e size v n xs)
 (M : Nat → Prop) (A : Option Addr) (m c : Nat) (news : List Value) (hx : a.eval x = .slice A m c) (hr : Rd w M A news) (hl : news.length = m * size) (h1 : ∀ u ∈ news, u.oneCell' = true)
 (h63 : n + m ≤ maxLen) (hbytes : (n + m) * bytes ≤ 140737488355328) (hbase : base ≤ w.heap.size)
 (h : ∀ v' w', w'.ownsRow base e size v' (n + m) (xs ++ news) → w.grownBy w' v.ownBlock → (v'.ownBlock = v.ownBlock ∨ v'.ownBlock = some w.heap.size) → K (a.put o.dst v') w') :
 if Region.wanted o (yielded ops a.tmps) = true then Oper.wp P o a w K Q else E := by
 have hw : Region.wanted o (yielded ops a.tmps) = true := by simp [Region.wanted, hgd]
 rw [if_pos hw]
 exact wp_append_rd w s x t ho base e i z size bytes ht hi hz hsize hby hzs hsz v n xs hs hown M A m c news hx hr hl h1 h63 hbytes hbase h
end
theorem own_empty {w : World} {base : Nat} {e : TypeId} {size : Nat} (h : base ≤ w.heap.size) : (w.alloc (.cells #[] e)).ownsRow base e size (.slice (some ⟨w.heap.size, 0, none⟩) 0 0) 0 [] :=
 ⟨by simp, Or.inr ⟨w.heap.size, 0, #[], rfl, h, heap_alloc_new _ _, Nat.le_refl _, by unfold maxLen; omega, by simp, by simp⟩⟩
theorem own_empty' {w : World} {base g : Nat} {e : TypeId} {size : Nat} (h : base ≤ w.heap.size) (hg : g = w.heap.size) : (w.alloc (.cells #[] e)).ownsRow base e size (.slice (some ⟨g, 0, none⟩) 0 0) 0 [] := by
 subst hg; exact own_empty h
theorem Rd.alloc {w : World} {M : Nat → Prop} {A : Option Addr} {xs : List Value} (h : Rd w M A xs) (o : Obj) : Rd (w.alloc o) M A xs := h.only ((Only.refl NoBlk _).alloc o) (fun _ h => h.elim)
/-- a block reads as its cells -/
theorem rd_blkN {w : World} {M : Nat → Prop} {g : Nat} {t : TypeId} {xs : List Value} (h : Blk w g t xs.toArray) (hm : ¬ M g) : Rd w M (some ⟨g, 0, none⟩) xs :=
 Or.inr ⟨g, 0, rfl, hm, h.lt, fun j hj => by
  rw [h.cell, List.getElem?_toArray, Nat.zero_add]⟩
theorem own_cap {w : World} {base size n : Nat} {e : TypeId} {v : Value} {xs : List Value} (h : w.ownsRow base e size v n xs) : ∃ A c, v = .slice A n c ∧ n ≤ c := by
 rcases h.2 with ⟨hv, hn⟩ | ⟨g, cap, cur, hv, _, _, hnc, _⟩
 ·exact ⟨none, 0, by rw [hv, hn], by omega⟩
 ·exact ⟨_, cap, hv, hnc⟩
end Go.Proofs.YtaioaojfdngfdaaGreatDoor
namespace Go.Proofs.YtaioaojfdngfdaaGreatDoor
open Go.RowKit
set_option linter.unusedVariables false

theorem below_drewN (w : World) (n : Nat) : Below w.heap.size w (w.drewN n) := ⟨rfl, rfl, rfl, Nat.le_refl _, fun _ _ => rfl⟩
theorem below_drew (w : World) : Below w.heap.size w w.drew := ⟨rfl, rfl, rfl, Nat.le_refl _, fun _ _ => rfl⟩
theorem below_alloc (w : World) (o : Obj) : Below w.heap.size w (w.alloc o) := (Below.refl _ _).alloc (Nat.le_refl _) _
end Go.Proofs.YtaioaojfdngfdaaGreatDoor
namespace Go.Proofs.YtaioaojfdngfdaaGreatDoor
open Go.RowKit
set_option linter.unusedVariables false

section
variable {w : World} {M : Nat → Prop} {A : Option Addr} {l : List Ev}
end
theorem bkeepL {B : Nat} {w0 w1 : World} {b o : Nat} {v : Value} (h : Below B w0 w1) (hb : b < B) (hc : w0.cell? ⟨b, o, none⟩ = some v) : w1.cell? ⟨b, o, none⟩ = some v :=
 (h.cell (p := ⟨b, o, none⟩) hb).trans hc
end Go.Proofs.YtaioaojfdngfdaaGreatDoor
namespace Go.Proofs.YtaioaojfdngfdaaGreatDoor
open Go.RowKit Go.Shelf Go.Sort
theorem below_putRow {B g off : Nat} {w0 w : World} (h : Below B w0 w) (hg : B ≤ g) (d : Array Int) : Below B w0 (putRow (Value.int .i64) w g off d) := by
 refine ⟨h.os, h.tape, h.output, by simpa using h.size, fun i hi => ?_⟩
 have e : (putRow (Value.int .i64) w g off d).heap[i]? = w.heap[i]? := by
  simp only [putRow, mapBlock, Array.getElem?_modify]
  rw [if_neg (by omega)]
 rw [e]; exact h.block i hi
theorem below_ahead {B : Nat} {w0 w : World} (h : Below B w0 w) (n : Nat) : Below B w0 (Sort.ahead w n) := ⟨h.os, h.tape, h.output, h.size, h.block⟩
theorem below_grow {B : Nat} {w0 w : World} (h : Below B w0 w) (hB : B ≤ w.heap.size) (os : Array Obj) : Below B w0 (grow w os) := by
 refine ⟨h.os, h.tape, h.output, ?_, fun i hi => ?_⟩
 ·have := h.size; simp [grow]; omega
 ·rw [heap_grow_old w os (by omega)]; exact h.block i hi
end Go.Proofs.YtaioaojfdngfdaaGreatDoor
namespace Go.Proofs.YtaioaojfdngfdaaGreatDoor
open Go.RowKit
set_option linter.unusedVariables false

/-- the bytes of a text -/
abbrev bs (l : List UInt8) : ByteArray := ⟨l.toArray⟩
theorem bs_append (a b : List UInt8) : bs a ++ bs b = bs (a ++ b) := by
 apply ByteArray.ext
 simp [ByteArray.data_append]
theorem bs_size (a : List UInt8) : (bs a).size = a.length := by simp [ByteArray.size]
end Go.Proofs.YtaioaojfdngfdaaGreatDoor
namespace Go.Proofs.YtaioaojfdngfdaaGreatDoor
open Go.RowKit
set_option linter.unusedVariables false

end Go.Proofs.YtaioaojfdngfdaaGreatDoor
namespace Go.Proofs.YtaioaojfdngfdaaGreatDoor
open Go.RowKit
set_option linter.unusedVariables false
end Go.Proofs.YtaioaojfdngfdaaGreatDoor
namespace Go.Proofs.YtaioaojfdngfdaaGreatDoor
open Go.RowKit Go.Sort
set_option linter.unusedVariables false

theorem below_lib (w : World) (k : Nat) (os : Array Obj) : Below w.heap.size w (grow (w.drewN k) os) := below_grow (below_drewN w k) (Nat.le_refl _) os
abbrev stV : Array Value := #[.string ⟨#[114, 117, 110]⟩, .string ⟨#[100, 111, 110, 101]⟩, .string ⟨#[102, 97, 105, 108, 101, 100]⟩, .string ⟨#[100, 101, 97, 100, 108, 105, 110, 101]⟩, .string ⟨#[111, 118, 101, 114, 102, 108, 111, 119]⟩, .string ⟨#[100, 114, 97, 105, 110, 101, 100]⟩]
end Go.Proofs.YtaioaojfdngfdaaGreatDoor
namespace Go.Proofs.YtaioaojfdngfdaaGreatDoor
set_option linter.unusedVariables false
set_option linter.unusedSimpArgs false

/-- what has been read -/
structure PM where
 name : ByteArray
 dl : Int
 jm : Int
 ops : List OpM
 labels : List (List UInt8 × Int)
 uses : List UseM
 head : Bool
 opn : Bool
 t0 : Bool
 t1 : Bool
 line : Int
 ws : List WordM
 width : Int
 st : St
def kScript : List UInt8 := [115, 99, 114, 105, 112, 116]
def kSend : List UInt8 := [115, 101, 110, 100]
def kExpect : List UInt8 := [101, 120, 112, 101, 99, 116]
def kOn : List UInt8 := [111, 110]
def kTimeout : List UInt8 := [116, 105, 109, 101, 111, 117, 116]
def kEof : List UInt8 := [101, 111, 102]
def kGoto : List UInt8 := [103, 111, 116, 111]
def kPause : List UInt8 := [112, 97, 117, 115, 101]
def kDone : List UInt8 := [100, 111, 110, 101]
def kFail : List UInt8 := [102, 97, 105, 108]
def kLabel : List UInt8 := [108, 97, 98, 101, 108]
def isArm (t : List UInt8) : Bool := decide (t = kOn) || (decide (t = kTimeout) || decide (t = kEof))
def isOp (t : List UInt8) : Bool := decide (t = kSend) || (decide (t = kExpect) || (decide (t = kGoto) || (decide (t = kPause) || (decide (t = kDone) || (decide (t = kFail) || decide (t = kLabel))))))

def mFail (m : PM) (col e : Int) : PM := { m with st := failS m.line m.st col e }
def mName (m : PM) : WordM × St := nameS m.line m.width m.ws m.st
def mTicks (m : PM) (least : Int) (ever : Bool) : Int × St := ticksS m.line m.width m.ws m.st least ever
def mText (m : PM) : List UInt8 × St := textS m.line m.width m.ws m.st
def mPat (m : PM) : List UInt8 × St := patternS m.line m.width m.ws m.st
def mLabel (m : PM) (how : Int) : PM := { m with st := (mName m).2, uses := m.uses ++ [⟨(mName m).1.text, m.line, ((mName m).1.at_ : Nat) + 1, (m.ops.length : Nat) - 1, how⟩] }
/-- an op put behind all others -/
def mOp (m : PM) (o : OpM) : PM := { m with ops := m.ops ++ [o], st := if 200 ≤ m.ops.length then failS m.line m.st 0 4 else m.st }
def oKind (k : Int) : OpM := ⟨k, ⟨#[]⟩, 0, 0, [], 0, 0⟩
def mLast (m : PM) (o : OpM) (s : St) : PM := { m with ops := m.ops.set (m.ops.length - 1) o, st := s }
/-- the head -/
def mName1 (m : PM) : PM := { m with head := true, name := bs (mName m).1.text, st := (mName m).2 }
def mDl (m : PM) : PM := { m with dl := (mTicks m 1 true).1, st := (mTicks m 1 true).2 }
def mJumps (m : PM) : PM := if (wordS m.line m.width m.ws m.st false).1.2 = true then { m with jm := (numS m.line (wordS m.line m.width m.ws m.st false).2 (wordS m.line m.width m.ws m.st false).1.1 0 1000).1, st := (numS m.line (wordS m.line m.width m.ws m.st false).2 (wordS m.line m.width m.ws m.st false).1.1 0 1000).2 } else { m with st := (wordS m.line m.width m.ws m.st false).2 }
def mBegin (m : PM) : PM := mJumps (mDl (mName1 m))
/-- an arm -/
def op0 : OpM := oKind 0
def lastOp (m : PM) : OpM := m.ops.getD (m.ops.length - 1) op0
def addArm (o : OpM) (t : List UInt8) : OpM := { o with arms := o.arms ++ [⟨bs t, 0⟩] }
def mOn (m : PM) : PM := mLabel (mLast m (addArm (lastOp m) (mPat m).1) (mPat m).2) (lastOp m).arms.length
def mTw0 (m : PM) : PM := { m with t0 := true, st := if m.t0 = true then failS m.line m.st 0 6 else m.st }
def mTw1 (m : PM) : PM := { m with t1 := true, st := if m.t1 = true then failS m.line m.st 0 6 else m.st }
def mArm (m : PM) (t : List UInt8) : PM :=
 if m.opn = false then mFail m 0 8
 else if t = kOn then (if 8 ≤ (lastOp m).arms.length then mFail m 0 4 else mOn m)
 else if t = kEof then mLabel (mTw1 m) (-3) else mLabel (mTw0 m) (-2)
/-- an op, or a label -/
def mShut (m : PM) : PM := { m with opn := false }
def mSend (m : PM) : PM := mLast (mOp m (oKind 1)) { oKind 1 with text := bs (mText (mOp m (oKind 1))).1 } (mText (mOp m (oKind 1))).2
def oExpect : OpM := { oKind 2 with onT := -1, onE := -1 }
def mExpect (m : PM) : PM := { mLast (mOp m oExpect) { oExpect with n := (mTicks (mOp m oExpect) 0 true).1 } (mTicks (mOp m oExpect) 0 true).2 with opn := true, t0 := false, t1 := false }
def mPause (m : PM) : PM := mLast (mOp m (oKind 4)) { oKind 4 with n := (mTicks (mOp m (oKind 4)) 0 false).1 } (mTicks (mOp m (oKind 4)) 0 false).2
def mLab (m : PM) : PM := { m with labels := ((mName m).1.text, ((m.ops.length : Nat) : Int)) :: m.labels, st := if (lbF (mName m).1.text m.labels).isSome = true then failS m.line (mName m).2 (mName m).1.at_ 6 else (mName m).2 }
def mOps (m : PM) (t : List UInt8) : PM :=
 if t = kSend then mSend (mShut m) else if t = kExpect then mExpect (mShut m) else if t = kGoto then mLabel (mOp (mShut m) (oKind 3)) (-1) else if t = kPause then mPause (mShut m)
 else if t = kDone then mOp (mShut m) (oKind 5) else if t = kFail then mOp (mShut m) (oKind 6) else if t = kLabel then mLab (mShut m) else mShut m
/-- a line that says something -/
def mNext (m : PM) : PM := { m with st := ⟨m.st.nx + 1, m.st.sl, m.st.sc, m.st.bad⟩ }
def sayW (m : PM) : WordM := wsAt m.ws m.st.nx
def knownB (m : PM) : Bool := !(sayW m).quoted && (if (sayW m).text = kScript then !m.head else if (isArm (sayW m).text || isOp (sayW m).text) = true then m.head else false)
def mSay1 (m : PM) (t : List UInt8) : PM := if t = kScript then mBegin m else if isArm t = true then mArm m t else mOps m t
def mRest (m : PM) : PM := if m.st.bad = 0 ∧ m.st.nx < m.ws.length then mFail m (wsAt m.ws m.st.nx).at_ 2 else m
def mSay (m : PM) : PM := if knownB m = false then mFail (mNext m) 0 11 else mRest (mSay1 (mNext m) (sayW m).text)
/-- a line -/
def mLine (m : PM) (i : Nat) (s : List UInt8) : PM := { m with line := (i : Nat) + 1, ws := (wordsM s).1, width := s.length, st := ⟨0, m.st.sl, m.st.sc, m.st.bad⟩ }
def mOne (m : PM) (i : Nat) (s : List UInt8) : PM := if idleB s = true then m else if (wordsM s).2.2 ≠ 0 then mFail (mLine m i s) (wordsM s).2.1 (wordsM s).2.2 else mSay (mLine m i s)
/-- the lines, till one is wrong -/
def mGo (l : List (List UInt8)) : Nat → Nat → PM → PM
 | 0, _, m => m
 | f + 1, i, m => if m.st.bad ≠ 0 then m else mGo l f (i + 1) (mOne m i (l.getD i []))
def m0 : PM := ⟨⟨#[]⟩, 0, 0, [], [], [], false, false, false, false, 0, [], 0, ⟨0, 0, 0, 0⟩⟩
/-- a use with its label's op put in -/
def setUse (ops : List OpM) (u : UseM) (to_ : Int) : List OpM :=
 ops.set u.op.toNat (if u.how = -1 then { ops.getD u.op.toNat op0 with «to» := to_ } else if u.how = -2 then { ops.getD u.op.toNat op0 with onT := to_ } else if u.how = -3 then { ops.getD u.op.toNat op0 with onE := to_ }
  else { ops.getD u.op.toNat op0 with arms := (ops.getD u.op.toNat op0).arms.set u.how.toNat ⟨((ops.getD u.op.toNat op0).arms.getD u.how.toNat ⟨⟨#[]⟩, 0⟩).pat, to_⟩ })
/-- the uses, till one has no label -/
def mRes (ls : List (List UInt8 × Int)) : List UseM → List OpM → List OpM × Option UseM
 | [], ops => (ops, none)
 | u :: r, ops => match lbF u.name ls with
  | none => (ops, some u)
  | some t => mRes ls r (setUse ops u t)
/-- the script of a text; where, and what is wrong -/
def noProg : ProgM := ⟨⟨#[]⟩, 0, 0, []⟩
def endP (m : PM) : ProgM × (Int × Int) × Int :=
 if m.st.bad ≠ 0 then (noProg, (m.st.sl, m.st.sc), m.st.bad)
 else if m.head = false then (noProg, (1, 1), 3)
 else match mRes m.labels m.uses m.ops with
  | (ops, none) => (⟨m.name, m.dl, m.jm, ops⟩, (0, 0), 0)
  | (ops, some u) => (noProg, (u.line, u.col), 13)
def parseM (s : List UInt8) : ProgM × (Int × Int) × Int := endP (mGo (linesM s) (linesM s).length 0 m0)
end Go.Proofs.YtaioaojfdngfdaaGreatDoor
namespace Go.Proofs.YtaioaojfdngfdaaGreatDoor
set_option linter.unusedVariables false
set_option linter.unusedSimpArgs false

/-- what has been read -/
structure DM where
 name : ByteArray
 dl : Int
 jm : Int
 ops : List OpM
 labels : List (List UInt8 × Int)
 uses : List UseM
 head : Bool
 opn : Bool
 tm : Bool
 ef : Bool
def findD (k : List UInt8) : List (List UInt8 × Int) → Int
 | [] => -1
 | (n, v) :: r => if n = k then v else findD k r
def lookD (t : List UInt8) : List (List UInt8 × List UInt8) → List UInt8 × Bool
 | [] => ([], false)
 | (k, s) :: r => if k = t then (s, true) else lookD t r
def shapesD : List (List UInt8 × List UInt8) := [(kScript, [110, 100, 106]), (kSend, [113]), (kExpect, [101]), (kOn, [112, 108]), (kTimeout, [108]), (kEof, [108]), (kGoto, [108]), (kPause, [116]), (kDone, []), (kFail, []), (kLabel, [110])]
/-- what stands behind a word -/
def shapeD (t : List UInt8) : List UInt8 × Bool := lookD t shapesD
def numberD (k : UInt8) (t : List UInt8) : Int × Nat :=
 if t = neverL ∧ (k = 100 ∨ k = 101) then (9223372036854775807, 0)
 else if (numberP t (if k = 106 then 1000 else 1000000000000)).2 = 0 ∧ k = 100 ∧ (numberP t (if k = 106 then 1000 else 1000000000000)).1 = 0 then (0, 12)
 else numberP t (if k = 106 then 1000 else 1000000000000)
def wrongD (k : UInt8) (w : WordM) : Nat :=
 if w.quoted ≠ (decide (k = 113) || decide (k = 112)) then 2
 else if (k = 110 ∨ k = 108) ∧ nameL w.text = false then 10
 else if k = 113 ∧ w.text.length = 0 then 9
 else if (k = 113 ∧ 256 < w.text.length) ∨ (k = 112 ∧ 64 < w.text.length) then 4
 else if k = 112 then (checkS w.text).2
 else if k = 100 ∨ k = 101 ∨ k = 116 ∨ k = 106 then (numberD k w.text).2
 else 0
def lastD (d : DM) : OpM := d.ops.getD (d.ops.length - 1) op0
def placeD (d : DM) (w : WordM) : Nat :=
 if w.quoted = true ∨ (shapeD w.text).2 = false ∨ decide (w.text = kScript) = d.head then 11
 else if isArm w.text = true then
  (if d.opn = false then 8 else if w.text = kOn ∧ 7 < (lastD d).arms.length then 4 else if (w.text = kTimeout ∧ d.tm = true) ∨ (w.text = kEof ∧ d.ef = true) then 6 else 0)
 else if w.text ≠ kScript ∧ w.text ≠ kLabel ∧ 199 < d.ops.length then 4 else 0
def indexD (t : List UInt8) : List (List UInt8) → Nat → Nat
 | [], _ => 0
 | k :: r, i => if k = t then i + 1 else indexD t r (i + 1)
/-- an op's kind, by its word -/
def kindD (t : List UInt8) : Nat := indexD t [kSend, kExpect, kGoto, kPause, kDone, kFail] 0
def opDoc (l : List WordM) : OpM :=
 ⟨(kindD (wsAt l 0).text : Nat), if kindD (wsAt l 0).text = 1 then bs (wsAt l 1).text else ⟨#[]⟩, if kindD (wsAt l 0).text = 2 then (numberD 101 (wsAt l 1).text).1 else if kindD (wsAt l 0).text = 4 then (numberD 116 (wsAt l 1).text).1 else 0, 0, [],
  if kindD (wsAt l 0).text = 2 then -1 else 0, if kindD (wsAt l 0).text = 2 then -1 else 0⟩
def dOp (d : DM) (l : List WordM) : DM := if 0 < kindD (wsAt l 0).text then { d with ops := d.ops ++ [opDoc l], opn := decide (kindD (wsAt l 0).text = 2), tm := false, ef := false } else d
def useD (d : DM) (l : List WordM) (line how : Int) : DM := { d with uses := d.uses ++ [⟨(wsAt l (l.length - 1)).text, line, ((wsAt l (l.length - 1)).at_ : Nat) + 1, (d.ops.length : Nat) - 1, how⟩] }
def dRest (d : DM) (l : List WordM) (line : Int) : DM :=
 if (wsAt l 0).text = kScript then { d with head := true, name := bs (wsAt l 1).text, dl := (numberD 100 (wsAt l 2).text).1, jm := (numberD 106 (wsAt l 3).text).1 }
 else if (wsAt l 0).text = kLabel then { d with labels := d.labels ++ [((wsAt l 1).text, ((d.ops.length : Nat) : Int))], opn := false }
 else if (wsAt l 0).text = kOn then useD { d with ops := d.ops.set (d.ops.length - 1) (addArm (lastD d) (wsAt l 1).text) } l line ((lastD d).arms.length : Nat)
 else if (wsAt l 0).text = kTimeout then useD { d with tm := true } l line (-2)
 else if (wsAt l 0).text = kEof then useD { d with ef := true } l line (-3)
 else if (wsAt l 0).text = kGoto then useD d l line (-1)
 else d
def takeD (d : DM) (l : List WordM) (line : Int) : DM := dRest (dOp d l) l line
/-- what is wrong of the words behind the first -/
def formD (d : DM) (l : List WordM) (width : Nat) : List UInt8 → Nat → Nat × Nat
 | [], i => if i + 1 < l.length then ((wsAt l (i + 1)).at_, 2) else (0, 0)
 | c :: r, i => if l.length ≤ i + 1 then (width, 3) else if wrongD c (wsAt l (i + 1)) ≠ 0 then ((wsAt l (i + 1)).at_, wrongD c (wsAt l (i + 1)))
  else if (wsAt l 0).text = kLabel ∧ 0 ≤ findD (wsAt l 1).text d.labels then ((wsAt l 1).at_, 6) else formD d l width r (i + 1)
/-- a line; where, and what is wrong -/
def readE (d : DM) (s : List UInt8) : Nat × Nat :=
 if (wordsM s).2.2 ≠ 0 then ((wordsM s).2.1, (wordsM s).2.2)
 else if placeD d (wsAt (wordsM s).1 0) ≠ 0 then (0, placeD d (wsAt (wordsM s).1 0))
 else formD d (wordsM s).1 s.length (shapeD (wsAt (wordsM s).1 0).text).1 0
def dGo (l : List (List UInt8)) : Nat → Nat → DM → DM × Option (Nat × Nat × Nat)
 | 0, _, d => (d, none)
 | f + 1, i, d => if idleB (l.getD i []) = true then dGo l f (i + 1) d
  else if (readE d (l.getD i [])).2 ≠ 0 then (d, some (i, readE d (l.getD i [])))
  else dGo l f (i + 1) (takeD d (wordsM (l.getD i [])).1 ((i : Nat) + 1))
def d0 : DM := ⟨⟨#[]⟩, 0, 0, [], [], [], false, false, false, false⟩
def dRes (ls : List (List UInt8 × Int)) : List UseM → List OpM → List OpM × Option UseM
 | [], ops => (ops, none)
 | u :: r, ops => if findD u.name ls < 0 then (ops, some u) else dRes ls r (setUse ops u (findD u.name ls))
def endD (x : DM × Option (Nat × Nat × Nat)) : ProgM × (Int × Int) × Int :=
 match x.2 with
 | some (i, c, e) => (noProg, ((i : Nat) + 1, (c : Nat) + 1), e)
 | none => if x.1.head = false then (noProg, (1, 1), 3)
  else match dRes x.1.labels x.1.uses x.1.ops with
   | (ops, none) => (⟨x.1.name, x.1.dl, x.1.jm, ops⟩, (0, 0), 0)
   | (ops, some u) => (noProg, (u.line, u.col), 13)
def parseD (s : List UInt8) : ProgM × (Int × Int) × Int := endD (dGo (linesM s) (linesM s).length 0 d0)
end Go.Proofs.YtaioaojfdngfdaaGreatDoor
