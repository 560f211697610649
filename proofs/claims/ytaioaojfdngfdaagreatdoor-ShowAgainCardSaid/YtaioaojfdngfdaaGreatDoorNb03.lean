/- Parts of a chain of lemmas: Open, OpenEv, OpenEv2, Shelf. Conditions: those of each theorem. -/
import Derived.Test.YtaioaojfdngfdaaGreatDoorNb02
import Derived.Deep.Slices
import Derived.Deep.Fields
import Derived.ChangeSame
import Derived.Shelf.Strconv.Itoa0
import Derived.Shelf.Strconv.Itoa1
import Derived.Shelf.LaysM
import Derived.Shelf.Strconv.Itoa2
import Derived.Shelf.Strconv.Itoa3
import Derived.Shelf.Strconv.Itoa4
import Derived.Shelf.Sort.Plain
import Derived.Ground.Names2Prog
import Derived.Shelf.Slices.CompactI
import Derived.Shelf.Slices.SearchI
import Derived.Shelf.Slices.Turned
import Derived.Shelf.Slices.Cells
import Derived.Shelf.Slices.In.SortNone
import Derived.Test.YtaioaojfdngfdaaGreatDoorNb01
namespace Go.Proofs.YtaioaojfdngfdaaGreatDoor
open Go.ChangeShapes Go.WideShapes Go.ChangeAt Go.RowKit Go.Deep
def flat {α : Type} (enc : α → List Value) (l : List α) : List Value := (l.map enc).flatten
theorem flat_nil {α : Type} (enc : α → List Value) : flat enc [] = [] := rfl
theorem flat_cons {α : Type} (enc : α → List Value) (a : α) (l : List α) : flat enc (a :: l) = enc a ++ flat enc l := rfl
theorem flat_append {α : Type} (enc : α → List Value) (a b : List α) : flat enc (a ++ b) = flat enc a ++ flat enc b := by simp [flat]
theorem flat_len {α : Type} (enc : α → List Value) (n : Nat) (h : ∀ a, (enc a).length = n) (l : List α) : (flat enc l).length = l.length * n := by
 induction l with
 | nil => simp [flat]
 | cons a l ih => rw [flat_cons, List.length_append, h, ih, List.length_cons, Nat.add_mul]; omega
theorem flat_at {α : Type} (enc : α → List Value) (n : Nat) (h : ∀ a, (enc a).length = n) : ∀ (l : List α) (k j : Nat) (a : α), l[k]? = some a → j < n → (flat enc l)[k * n + j]? = (enc a)[j]?
 | [], k, j, a, hk, _ => by simp at hk
 | b :: l, 0, j, a, hk, hj => by
  simp at hk
  subst hk
  rw [flat_cons, List.getElem?_append_left (by rw [h]; omega)]
  simp
 | b :: l, k + 1, j, a, hk, hj => by
  have hk' : l[k]? = some a := by simpa using hk
  rw [flat_cons, List.getElem?_append_right (by rw [h, Nat.add_mul]; omega), h, ← flat_at enc n h l k j a hk' hj]
  congr 1
  rw [Nat.add_mul]; omega
theorem exists_map {α : Type} {enc : α → List Value} {ok : α → Prop} : ∀ (xs : List (List Value)), (∀ x ∈ xs, ∃ a, x = enc a ∧ ok a) → ∃ l : List α, xs = l.map enc ∧ ∀ a ∈ l, ok a
 | [], _ => ⟨[], rfl, by simp⟩
 | x :: xs, h => by
  obtain ⟨a, ha, oka⟩ := h x (by simp)
  obtain ⟨l, hl, okl⟩ := exists_map xs (fun y hy => h y (by simp [hy]))
  exact ⟨a :: l, by rw [ha, hl]; rfl, by simp; exact ⟨oka, okl⟩⟩
section
variable {H : Type} {enc : TypeId × Value → H} {P : Program} {w : World}
theorem spot_none {a : Addr} {v : Value} (h : w.cell? a = some v) : a.spot = none := by
 unfold World.cell? at h
 split at h
 ·split at h
  ·cases h
  ·rename_i hs
   simpa using hs
 ·cases h
theorem add_block (a : Addr) (n : Nat) : (a.add n).block = a.block := by unfold Addr.add; split <;> rfl
/-- an argument that is a slice: its elements' cells, each as Q says -/
theorem open_rows {t e : TypeId} {v : Value} {d : DataW H} {p : List MemPlace} {sz : Nat} {Q : List Value → Prop} (ht : P.underlying t = some (.slice e)) (hsz : P.cellsOf e = sz) (hpos : 0 < sz)
 (hv : ∃ a n c, v = .slice a n c) (h : DataW.Trod enc P w 0 (fun _ => true) true t v d p) (hQ : ∀ fuel cs x, DataW.trod enc P w 0 (fun _ => true) true fuel e cs = some x → Q cs) :
 ∃ (A : Option Addr) (n c : Nat) (xs : List (List Value)), v = .slice A n c ∧ xs.length = n ∧ n ≤ c ∧ c ≤ maxLen ∧ Rd w NoBlk A xs.flatten ∧ (∀ x ∈ xs, x.length = sz ∧ Q x) ∧
  (d = .nil ∧ n = 0 ∨ ∃ el sp, d = .slice el sp ∧ el.length = n) := by
 obtain ⟨a0, n0, c0, rfl⟩ := hv
 obtain ⟨fuel, hf⟩ := h
 rcases open_slice ht hf with ⟨hcs, hx⟩ | ⟨a, len, cap, m, n, D, Pl, hcs, _, hl, hm, hmm, hx, hi⟩
 ·have e0 : Value.slice a0 n0 c0 = .slice none 0 0 := by simpa [Value.cells] using hcs
  injection e0 with e1 e2 e3
  subst e1 e2 e3
  simp only [Prod.mk.injEq] at hx
  exact ⟨none, 0, 0, [], rfl, rfl, Nat.le_refl _, by simp [maxLen], Or.inl rfl, by simp, Or.inl ⟨hx.1, rfl⟩⟩
 ·have e0 : Value.slice a0 n0 c0 = .slice (some a) len cap := by simpa [Value.cells] using hcs
  injection e0 with e1 e2 e3
  subst e1 e2 e3
  have hm' : m = c0 := by simpa using hmm
  have hcell : ∀ i, i < n0 → ∃ cs', w.cells? 0 (a.add (i * sz)) sz = some cs' ∧ cs'.length = sz ∧ Q cs' ∧ ∀ j, j < sz → w.cell? (a.add (i * sz + j)) = cs'[j]? := by
   intro i hlt
   obtain ⟨cs', hc, ht'⟩ := hi i (by omega)
   rw [hsz] at hc
   obtain ⟨_, hcl, hat⟩ := World.cells?_some hc
   refine ⟨cs', hc, hcl, hQ _ _ _ ht', fun j hj => ?_⟩
   rw [← Go.Deep.add_add]
   exact hat j hj
  have hxs : ∃ xs : List (List Value), xs.length = n0 ∧ (∀ x ∈ xs, x.length = sz ∧ Q x) ∧ ∀ j, j < n0 * sz → w.cell? (a.add j) = xs.flatten[j]? := by
   clear hi hf hx hcs hm hmm hm' D Pl
   induction n0 with
   | zero => exact ⟨[], rfl, by simp, by simp⟩
   | succ k ih =>
    obtain ⟨xs, h1, h2, h3⟩ := ih (by omega) (fun i hik => hcell i (by omega))
    obtain ⟨cs', _, hcl, hq, hat⟩ := hcell k (by omega)
    refine ⟨xs ++ [cs'], by simp [h1], ?_, fun j hj => ?_⟩
    ·intro x hx
     simp only [List.mem_append, List.mem_singleton] at hx
     rcases hx with hx | rfl
     ·exact h2 x hx
     ·exact ⟨hcl, hq⟩
    ·have hfl : xs.flatten.length = k * sz := by
      have := flat_len (fun x : List Value => x.take sz ++ List.replicate (sz - x.length) undef) sz (fun a => by simp; omega) xs
      rw [h1] at this
      rw [← this]
      unfold flat
      congr 1
      congr 1
      have : xs.map (fun x : List Value => x.take sz ++ List.replicate (sz - x.length) undef) = xs.map id := List.map_congr_left (fun x hx => by
       have hl := (h2 x hx).1
       rw [List.take_of_length_le (by omega)]; simp [hl])
      rw [this]; simp
     rw [List.flatten_append]
     by_cases hjk : j < k * sz
     ·rw [List.getElem?_append_left (by omega), h3 j hjk]
     ·rw [List.getElem?_append_right (by omega), hfl]
      have hs := hat (j - k * sz) (by rw [Nat.add_mul] at hj; omega)
      rw [show k * sz + (j - k * sz) = j by omega] at hs
      rw [hs]; simp
  obtain ⟨xs, h1, h2, h3⟩ := hxs
  refine ⟨some a, n0, c0, xs, rfl, h1, hl, hm, ?_, h2, Or.inr ⟨_, _, by simp only [Prod.mk.injEq] at hx; exact hx.1, by simp⟩⟩
  by_cases hn : n0 = 0
  ·subst hn
   have : xs = [] := List.eq_nil_of_length_eq_zero h1
   subst this
   exact Or.inl rfl
  ·right
   have hfl : xs.flatten.length = n0 * sz := by
    clear h3 hcell hi hf hx hcs
    subst h1
    clear hl hn hmm
    induction xs with
    | nil => simp
    | cons x xs ih =>
     rw [List.flatten_cons, List.length_append, ih (fun y hy => h2 y (by simp [hy])), (h2 x (by simp)).1, List.length_cons, Nat.add_mul]; omega
   have hp0 : 0 < n0 * sz := Nat.mul_pos (by omega) hpos
   have hc0 := h3 0 hp0
   rw [List.getElem?_eq_getElem (by omega)] at hc0
   have hs := spot_none hc0
   have hblk := World.block_lt_of_cell? w _ hc0
   obtain ⟨b, o, s⟩ := a
   have hs' : s = none := by
    unfold Addr.add at hs
    simpa using hs
   subst hs'
   refine ⟨b, o, rfl, fun h => h, by simpa [add_block] using hblk, fun j hj => ?_⟩
   have := h3 j (by omega)
   rw [Addr.add_lit] at this
   exact this
/-- a struct of one-cell fields: its cells, one a field -/
theorem struct_cells {t : TypeId} {fs : Array Field} {fuel : Nat} {cs : List Value} {x : DataW H × List MemPlace} {base : Nat} {spare : Nat → Bool} {held : Bool} (hs : P.underlying t = some (.struct fs)) (hone : oneCellFields P fs = true) (hC : P.cellsOf t = fs.size)
 (h : DataW.trod enc P w base spare held fuel t cs = some x) :
 cs.length = fs.size ∧ ∀ (i : Nat) (f : Field), fs[i]? = some f → ∃ v y n, cs[i]? = some v ∧ DataW.trod enc P w base spare held n f.type [v] = some y := by
 obtain ⟨ys, n', _, hy, hlen, hyl, hf⟩ := DataW.trod_struct hs h
 refine ⟨by rw [hlen, hC], fun j f hj => ?_⟩
 obtain ⟨ho, hk⟩ := hone_of hone j f hj
 have hjl : j < fs.size := (Array.getElem?_eq_some_iff.1 hj).1
 have h1 := hf j f hj
 rw [ho, hk] at h1
 have hone' : (cs.drop j).take 1 = [cs[j]'(by omega)] := by
  rw [List.drop_eq_getElem_cons (by omega)]
  rfl
 rw [hone'] at h1
 have hys : ys[j]? = some (ys[j]'(by omega)) := List.getElem?_eq_getElem (by omega)
 exact ⟨_, _, n', List.getElem?_eq_getElem (by omega), h1.trans hys⟩
theorem slice_of_cell {t e : TypeId} {v : Value} {n : Nat} {y : DataW H × List MemPlace} (ht : P.underlying t = some (.slice e)) (h : DataW.trod enc P w 0 (fun _ => true) true n t [v] = some y) : ∃ a n c, v = .slice a n c := by
 rcases open_slice ht h with ⟨hcs, _⟩ | ⟨a, len, cap, _, _, _, _, hcs, _⟩
 ·injection hcs with hcs _
  exact ⟨_, _, _, hcs⟩
 ·injection hcs with hcs _
  exact ⟨_, _, _, hcs⟩
theorem trod_of_cell {t : TypeId} {v : Value} {n : Nat} {y : DataW H × List MemPlace} (hv : ∃ a n c, v = .slice a n c) (h : DataW.trod enc P w 0 (fun _ => true) true n t [v] = some y) : DataW.Trod enc P w 0 (fun _ => true) true t v y.1 y.2 := by
 obtain ⟨a, k, c, rfl⟩ := hv
 exact ⟨n, h⟩
end
end Go.Proofs.YtaioaojfdngfdaaGreatDoor
namespace Go.Proofs.YtaioaojfdngfdaaGreatDoor
open Go.ChangeShapes Go.WideShapes Go.ChangeAt Go.RowKit Go.Deep
theorem flat_cells {α : Type} {enc : α → List Value} {n : Nat} (hn : ∀ a, (enc a).length = n) {l : List α} {w : World} {M : Nat → Prop} {A : Option Addr} (hr : Rd w M A (flat enc l)) (k : Nat) (a : α) (hk : l[k]? = some a) (h0 : 0 < n) :
 ∃ b o, A = some ⟨b, o, none⟩ ∧ ¬ M b ∧ b < w.heap.size ∧ ∀ j, j < n → w.cell? ⟨b, o + k * n + j, none⟩ = (enc a)[j]? := by
 have hkl : k < l.length := (List.getElem?_eq_some_iff.1 hk).1
 have hfl := flat_len enc n hn l
 have h1 : k * n + n ≤ l.length * n := by
  rw [← Nat.succ_mul]
  exact Nat.mul_le_mul_right n hkl
 obtain ⟨b, o, hA, hm, hb, hc⟩ := hr.at_ (j := k * n) (by omega)
 refine ⟨b, o, hA, hm, hb, fun j hj => ?_⟩
 rw [Nat.add_assoc, hc (k * n + j) (by omega)]
 exact flat_at enc n hn l k j a hk hj
def intOfV : Value → Int
 | .int _ n => n
 | _ => 0
section
variable {H : Type} {enc : TypeId × Value → H} {P : Program} {w : World}
theorem all_ints {t : TypeId} {fs : Array Field} {fuel : Nat} {cs : List Value} {x : DataW H × List MemPlace} {base : Nat} {spare : Nat → Bool} {held : Bool} (hs : P.underlying t = some (.struct fs)) (hone : oneCellFields P fs = true) (hC : P.cellsOf t = fs.size)
 (hi : ∀ (j : Nat) (f : Field), fs[j]? = some f → P.underlying f.type = some (.int .i64)) (h : DataW.trod enc P w base spare held fuel t cs = some x) :
 cs.length = fs.size ∧ ∀ j, j < fs.size → cs[j]? = some (.int .i64 (intOfV (cs.getD j undef))) := by
 obtain ⟨hl, hf⟩ := struct_cells hs hone hC h
 refine ⟨hl, fun j hj => ?_⟩
 have hfj : fs[j]? = some (fs[j]'hj) := Array.getElem?_eq_getElem hj
 obtain ⟨v, y, n, hv, ht⟩ := hf j _ hfj
 obtain ⟨k, hc, _, _⟩ := DataW.trod_int (hi j _ hfj) ht
 injection hc with hc _
 subst hc
 rw [hv]
 simp [List.getD, hv, intOfV]
end
theorem list6 {α : Type} {l : List α} {a b c d e f : α} (h : l.length = 6) (h0 : l[0]? = some a) (h1 : l[1]? = some b) (h2 : l[2]? = some c) (h3 : l[3]? = some d) (h4 : l[4]? = some e) (h5 : l[5]? = some f) : l = [a, b, c, d, e, f] := by
 match l, h with
 | [x0, x1, x2, x3, x4, x5], _ => simp at h0 h1 h2 h3 h4 h5; rw [h0, h1, h2, h3, h4, h5]
theorem take1 {α : Type} {l : List α} {i : Nat} {v : α} (h : (l.drop i).take 1 = [v]) : l[i]? = some v := by
 have h1 := congrArg (fun l => l[0]?) h
 simp only [List.getElem?_take, List.getElem?_drop, List.getElem?_cons_zero] at h1
 simpa using h1
def evD : Ev := ⟨0, 0, 0, 0, ⟨#[]⟩, 0, ⟨0, 0, 0, 0, 0, 0⟩⟩
def evAt (l : List Ev) (k : Nat) : Ev := l.getD k evD
theorem evAt_some {l : List Ev} {k : Nat} (h : k < l.length) : l[k]? = some (evAt l k) := by simp [evAt, List.getD, h]
end Go.Proofs.YtaioaojfdngfdaaGreatDoor
namespace Go.Proofs.YtaioaojfdngfdaaGreatDoor
open Go.ChangeShapes Go.WideShapes Go.ChangeAt Go.RowKit Go.Deep
/-- a number of 64 bits -/
def I64 (n : Int) : Prop := -9223372036854775808 ≤ n ∧ n ≤ 9223372036854775807
theorem I64.of_wf {n : Int} (h : (Lit.int .i64 n).wf = true) : I64 n := by
 simp only [Lit.wf, Bool.and_eq_true, decide_eq_true_eq] at h
 have h1 : (-9223372036854775808 : Int) ≤ n := h.1
 have h2 : n ≤ 9223372036854775807 := h.2
 exact ⟨h1, h2⟩
structure StpOk (x : Stp) : Prop where
 tick : I64 x.tick
 at_ : I64 x.at_
 what : I64 x.what
 arm : I64 x.arm
 n : I64 x.n
 status : I64 x.status
structure EvOk (x : Ev) : Prop where
 k : I64 x.k
 id : I64 x.id
 n : I64 x.n
 tick : I64 x.tick
 err : I64 x.err
 st : StpOk x.st
section
variable {H : Type} {enc : TypeId × Value → H} {P : Program} {w : World}
theorem all_ints_wf {t : TypeId} {fs : Array Field} {fuel : Nat} {cs : List Value} {x : DataW H × List MemPlace} {base : Nat} {spare : Nat → Bool} {held : Bool} (hs : P.underlying t = some (.struct fs)) (hone : oneCellFields P fs = true) (hC : P.cellsOf t = fs.size)
 (hi : ∀ (j : Nat) (f : Field), fs[j]? = some f → P.underlying f.type = some (.int .i64)) (h : DataW.trod enc P w base spare held fuel t cs = some x) :
 cs.length = fs.size ∧ ∀ j, j < fs.size → ∃ n, cs[j]? = some (.int .i64 n) ∧ I64 n := by
 obtain ⟨hl, hf⟩ := struct_cells hs hone hC h
 refine ⟨hl, fun j hj => ?_⟩
 have hfj : fs[j]? = some (fs[j]'hj) := Array.getElem?_eq_getElem hj
 obtain ⟨v, y, n, hv, ht⟩ := hf j _ hfj
 obtain ⟨k, hc, _, hw⟩ := DataW.trod_int (hi j _ hfj) ht
 injection hc with hc _
 subst hc
 exact ⟨k, hv, I64.of_wf hw⟩
end
end Go.Proofs.YtaioaojfdngfdaaGreatDoor
namespace Go.Proofs
open Go.Shelf
def Tryz.laysM171_ren : Go.Shelf.Ren := ⟨fun | 171 => 54 | 243 => 88 | 246 => 128 | 283 => 155 | 284 => 156 | 285 => 157 | 286 => 158 | 129 => 174 | 317 => 187 | 318 => 188 | 319 => 189 | 320 => 190 | 337 => 216 | 338 => 217 | n => n, fun | 3 => 3 | 9 => 9 | 2 => 2 | 4 => 4 | 171 => 223 | 0 => 0 | 53 => 224 | 37 => 47 | 5 => 5 | 173 => 227 | 212 => 258 | 51 => 239 | 20 => 20 | 213 => 259 | 46 => 213 | 232 => 301 | 233 => 302 | n => n, fun | 17 => 1 | 18 => 5 | 19 => 6 | n => n⟩
theorem Tryz.laysM171 : Go.Proofs.LaysM.n171 Tryz.prog Tryz.laysM171_ren := {
 mixed := by kernel_rfl
 f129 := Tryz.func174.trans (congrArg some (by kernel_rfl))
 f171 := Tryz.func54.trans (congrArg some (by kernel_rfl))
 f243 := Tryz.func88.trans (congrArg some (by kernel_rfl))
 f246 := Tryz.func128.trans (congrArg some (by kernel_rfl))
 f283 := Tryz.func155.trans (congrArg some (by kernel_rfl))
 f284 := Tryz.func156.trans (congrArg some (by kernel_rfl))
 f285 := Tryz.func157.trans (congrArg some (by kernel_rfl))
 f286 := Tryz.func158.trans (congrArg some (by kernel_rfl))
 f317 := Tryz.func187.trans (congrArg some (by kernel_rfl))
 f318 := Tryz.func188.trans (congrArg some (by kernel_rfl))
 f319 := Tryz.func189.trans (congrArg some (by kernel_rfl))
 f320 := Tryz.func190.trans (congrArg some (by kernel_rfl))
 f337 := Tryz.func216.trans (congrArg some (by kernel_rfl))
 f338 := Tryz.func217.trans (congrArg some (by kernel_rfl))
 t0 := Tryz.underlying0
 a0 := Tryz.isAgg0
 z0 := Tryz.sizeOf0
 v0 := Tryz.zeroValue0
 t2 := Tryz.underlying2
 a2 := Tryz.isAgg2
 z2 := Tryz.sizeOf2
 v2 := Tryz.zeroValue2
 t3 := Tryz.underlying3
 a3 := Tryz.isAgg3
 z3 := Tryz.sizeOf3
 v3 := Tryz.zeroValue3
 t4 := Tryz.underlying4
 a4 := Tryz.isAgg4
 z4 := Tryz.sizeOf4
 v4 := Tryz.zeroValue4
 t5 := Tryz.underlying5
 a5 := Tryz.isAgg5
 z5 := Tryz.sizeOf5
 v5 := Tryz.zeroValue5
 t9 := Tryz.underlying9
 a9 := Tryz.isAgg9
 z9 := Tryz.sizeOf9
 v9 := Tryz.zeroValue9
 t20 := Tryz.underlying20
 a20 := Tryz.isAgg20
 z20 := Tryz.sizeOf20
 v20 := Tryz.zeroValue20
 t37 := Tryz.underlying47
 a37 := Tryz.isAgg47
 z37 := Tryz.sizeOf47
 v37 := Tryz.zeroValue47
 t46 := Tryz.underlying213
 a46 := Tryz.isAgg213
 z46 := Tryz.sizeOf213
 v46 := Tryz.zeroValue213
 t51 := Tryz.underlying239
 a51 := Tryz.isAgg239
 z51 := Tryz.sizeOf239
 v51 := Tryz.zeroValue239
 t53 := Tryz.underlying224
 a53 := Tryz.isAgg224
 z53 := Tryz.sizeOf224
 v53 := Tryz.zeroValue224
 t171 := Tryz.underlying223
 a171 := Tryz.isAgg223
 z171 := Tryz.sizeOf223
 v171 := Tryz.zeroValue223
 t173 := Tryz.underlying227
 a173 := Tryz.isAgg227
 z173 := Tryz.sizeOf227
 v173 := Tryz.zeroValue227
 t212 := Tryz.underlying258
 a212 := Tryz.isAgg258
 z212 := Tryz.sizeOf258
 v212 := Tryz.zeroValue258
 t213 := Tryz.underlying259
 a213 := Tryz.isAgg259
 z213 := Tryz.sizeOf259
 t232 := Tryz.underlying301
 a232 := Tryz.isAgg301
 z232 := Tryz.sizeOf301
 v232 := Tryz.zeroValue301
 t233 := Tryz.underlying302
 a233 := Tryz.isAgg302
 z233 := Tryz.sizeOf302
 v233 := Tryz.zeroValue302
 g17 := by kernel_rfl
 g18 := by kernel_rfl
 g19 := by kernel_rfl
 i0 := by kernel_rfl
 i2 := by kernel_rfl
 i3 := by kernel_rfl
 i4 := by kernel_rfl
 i5 := by kernel_rfl
 i9 := by kernel_rfl
 i20 := by kernel_rfl
 i37 := by kernel_rfl
 i46 := by kernel_rfl
 i51 := by kernel_rfl
 i53 := by kernel_rfl
 i171 := by kernel_rfl
 i173 := by kernel_rfl
 i212 := by kernel_rfl
 i232 := by kernel_rfl
 i233 := by kernel_rfl
 m17 := by kernel_rfl
 m18 := by kernel_rfl
 m19 := by kernel_rfl }
open Go.RowKit Go.Sort Go.Lib in
theorem Tryz.strconv_Itoa (n : Int) (h0 : -9223372036854775808 ≤ n) (h1 : n ≤ 9223372036854775807) (w : World) (htab : Lib.TabIs Tryz.prog w "internal/strconv.uint64pow10" .u64 Lib.pow10Tab) :
 Calls Tryz.prog 54 #[.int .i64 n] w fun e w' => e = .returned (.string ⟨(Lib.itoa n).toArray⟩) ∧ ∃ k os, w' = grow (w.drewN k) os := Any.strconv_Itoa Tryz.laysM171 n h0 h1 w htab
def Tryz.laysM173_ren : Go.Shelf.Ren := ⟨fun | 173 => 96 | 246 => 128 | 283 => 155 | 284 => 156 | 285 => 157 | 286 => 158 | 129 => 174 | 317 => 187 | 318 => 188 | 319 => 189 | 320 => 190 | 337 => 216 | 338 => 217 | n => n, fun | 2 => 2 | 3 => 3 | 9 => 9 | 4 => 4 | 171 => 223 | 0 => 0 | 53 => 224 | 37 => 47 | 5 => 5 | 173 => 227 | 212 => 258 | 51 => 239 | 20 => 20 | 213 => 259 | 46 => 213 | 232 => 301 | 233 => 302 | n => n, fun | 17 => 1 | 18 => 5 | 19 => 6 | n => n⟩
theorem Tryz.laysM173 : Go.Proofs.LaysM.n173 Tryz.prog Tryz.laysM173_ren := {
 mixed := by kernel_rfl
 f129 := Tryz.func174.trans (congrArg some (by kernel_rfl))
 f173 := Tryz.func96.trans (congrArg some (by kernel_rfl))
 f246 := Tryz.func128.trans (congrArg some (by kernel_rfl))
 f283 := Tryz.func155.trans (congrArg some (by kernel_rfl))
 f284 := Tryz.func156.trans (congrArg some (by kernel_rfl))
 f285 := Tryz.func157.trans (congrArg some (by kernel_rfl))
 f286 := Tryz.func158.trans (congrArg some (by kernel_rfl))
 f317 := Tryz.func187.trans (congrArg some (by kernel_rfl))
 f318 := Tryz.func188.trans (congrArg some (by kernel_rfl))
 f319 := Tryz.func189.trans (congrArg some (by kernel_rfl))
 f320 := Tryz.func190.trans (congrArg some (by kernel_rfl))
 f337 := Tryz.func216.trans (congrArg some (by kernel_rfl))
 f338 := Tryz.func217.trans (congrArg some (by kernel_rfl))
 t0 := Tryz.underlying0
 a0 := Tryz.isAgg0
 z0 := Tryz.sizeOf0
 v0 := Tryz.zeroValue0
 t2 := Tryz.underlying2
 a2 := Tryz.isAgg2
 z2 := Tryz.sizeOf2
 v2 := Tryz.zeroValue2
 t3 := Tryz.underlying3
 a3 := Tryz.isAgg3
 z3 := Tryz.sizeOf3
 v3 := Tryz.zeroValue3
 t4 := Tryz.underlying4
 a4 := Tryz.isAgg4
 z4 := Tryz.sizeOf4
 v4 := Tryz.zeroValue4
 t5 := Tryz.underlying5
 a5 := Tryz.isAgg5
 z5 := Tryz.sizeOf5
 v5 := Tryz.zeroValue5
 t9 := Tryz.underlying9
 a9 := Tryz.isAgg9
 z9 := Tryz.sizeOf9
 v9 := Tryz.zeroValue9
 t20 := Tryz.underlying20
 a20 := Tryz.isAgg20
 z20 := Tryz.sizeOf20
 v20 := Tryz.zeroValue20
 t37 := Tryz.underlying47
 a37 := Tryz.isAgg47
 z37 := Tryz.sizeOf47
 v37 := Tryz.zeroValue47
 t46 := Tryz.underlying213
 a46 := Tryz.isAgg213
 z46 := Tryz.sizeOf213
 v46 := Tryz.zeroValue213
 t51 := Tryz.underlying239
 a51 := Tryz.isAgg239
 z51 := Tryz.sizeOf239
 v51 := Tryz.zeroValue239
 t53 := Tryz.underlying224
 a53 := Tryz.isAgg224
 z53 := Tryz.sizeOf224
 v53 := Tryz.zeroValue224
 t171 := Tryz.underlying223
 a171 := Tryz.isAgg223
 z171 := Tryz.sizeOf223
 v171 := Tryz.zeroValue223
 t173 := Tryz.underlying227
 a173 := Tryz.isAgg227
 z173 := Tryz.sizeOf227
 v173 := Tryz.zeroValue227
 t212 := Tryz.underlying258
 a212 := Tryz.isAgg258
 z212 := Tryz.sizeOf258
 v212 := Tryz.zeroValue258
 t213 := Tryz.underlying259
 a213 := Tryz.isAgg259
 z213 := Tryz.sizeOf259
 t232 := Tryz.underlying301
 a232 := Tryz.isAgg301
 z232 := Tryz.sizeOf301
 v232 := Tryz.zeroValue301
 t233 := Tryz.underlying302
 a233 := Tryz.isAgg302
 z233 := Tryz.sizeOf302
 v233 := Tryz.zeroValue302
 g17 := by kernel_rfl
 g18 := by kernel_rfl
 g19 := by kernel_rfl
 i0 := by kernel_rfl
 i2 := by kernel_rfl
 i3 := by kernel_rfl
 i4 := by kernel_rfl
 i5 := by kernel_rfl
 i9 := by kernel_rfl
 i20 := by kernel_rfl
 i37 := by kernel_rfl
 i46 := by kernel_rfl
 i51 := by kernel_rfl
 i53 := by kernel_rfl
 i171 := by kernel_rfl
 i173 := by kernel_rfl
 i212 := by kernel_rfl
 i232 := by kernel_rfl
 i233 := by kernel_rfl
 m17 := by kernel_rfl
 m18 := by kernel_rfl
 m19 := by kernel_rfl }
open Go.RowKit Go.Sort Go.Lib in
theorem Tryz.strconv_FormatInt_10 (n : Int) (h0 : -9223372036854775808 ≤ n) (h1 : n ≤ 9223372036854775807) (w : World) (htab : Lib.TabIs Tryz.prog w "internal/strconv.uint64pow10" .u64 Lib.pow10Tab) :
 Calls Tryz.prog 96 #[.int .i64 n, .int .i64 10] w fun e w' => e = .returned (.string ⟨(Lib.itoa n).toArray⟩) ∧ ∃ k os, w' = grow (w.drewN k) os := Any.strconv_FormatInt_10 Tryz.laysM173 n h0 h1 w htab
def Tryz.lays189_ren : Go.Shelf.Ren := ⟨fun | 189 => 101 | 125 => 139 | 257 => 138 | 128 => 173 | 129 => 174 | 294 => 164 | 295 => 165 | 296 => 166 | 297 => 167 | 298 => 168 | 299 => 169 | 216 => 170 | 300 => 171 | 301 => 172 | 328 => 193 | 329 => 194 | 330 => 195 | 331 => 196 | 332 => 197 | 215 => 198 | 343 => 218 | n => n, fun | 28 => 122 | 3 => 3 | 46 => 213 | 0 => 0 | 51 => 239 | 53 => 224 | 4 => 4 | 183 => 232 | 182 => 231 | 131 => 54 | 5 => 5 | 9 => 9 | 218 => 262 | 222 => 266 | 228 => 283 | 229 => 284 | n => n, fun | n => n⟩
theorem Tryz.lays189 : Go.Proofs.Lays.n189 Tryz.prog Tryz.lays189_ren := {
 mixed := by kernel_rfl
 f125 := Tryz.func139.trans (congrArg some (by kernel_rfl))
 f128 := Tryz.func173.trans (congrArg some (by kernel_rfl))
 f129 := Tryz.func174.trans (congrArg some (by kernel_rfl))
 f189 := Tryz.func101.trans (congrArg some (by kernel_rfl))
 f215 := Tryz.func198.trans (congrArg some (by kernel_rfl))
 f216 := Tryz.func170.trans (congrArg some (by kernel_rfl))
 f257 := Tryz.func138.trans (congrArg some (by kernel_rfl))
 f294 := Tryz.func164.trans (congrArg some (by kernel_rfl))
 f295 := Tryz.func165.trans (congrArg some (by kernel_rfl))
 f296 := Tryz.func166.trans (congrArg some (by kernel_rfl))
 f297 := Tryz.func167.trans (congrArg some (by kernel_rfl))
 f298 := Tryz.func168.trans (congrArg some (by kernel_rfl))
 f299 := Tryz.func169.trans (congrArg some (by kernel_rfl))
 f300 := Tryz.func171.trans (congrArg some (by kernel_rfl))
 f301 := Tryz.func172.trans (congrArg some (by kernel_rfl))
 f328 := Tryz.func193.trans (congrArg some (by kernel_rfl))
 f329 := Tryz.func194.trans (congrArg some (by kernel_rfl))
 f330 := Tryz.func195.trans (congrArg some (by kernel_rfl))
 f331 := Tryz.func196.trans (congrArg some (by kernel_rfl))
 f332 := Tryz.func197.trans (congrArg some (by kernel_rfl))
 f343 := Tryz.func218.trans (congrArg some (by kernel_rfl))
 t0 := Tryz.underlying0
 a0 := Tryz.isAgg0
 z0 := Tryz.sizeOf0
 v0 := Tryz.zeroValue0
 t3 := Tryz.underlying3
 a3 := Tryz.isAgg3
 z3 := Tryz.sizeOf3
 v3 := Tryz.zeroValue3
 t4 := Tryz.underlying4
 a4 := Tryz.isAgg4
 z4 := Tryz.sizeOf4
 v4 := Tryz.zeroValue4
 t5 := Tryz.underlying5
 a5 := Tryz.isAgg5
 z5 := Tryz.sizeOf5
 v5 := Tryz.zeroValue5
 t9 := Tryz.underlying9
 a9 := Tryz.isAgg9
 z9 := Tryz.sizeOf9
 v9 := Tryz.zeroValue9
 t28 := Tryz.underlying122
 a28 := Tryz.isAgg122
 z28 := Tryz.sizeOf122
 v28 := Tryz.zeroValue122
 t46 := Tryz.underlying213
 a46 := Tryz.isAgg213
 z46 := Tryz.sizeOf213
 v46 := Tryz.zeroValue213
 t51 := Tryz.underlying239
 a51 := Tryz.isAgg239
 z51 := Tryz.sizeOf239
 v51 := Tryz.zeroValue239
 t53 := Tryz.underlying224
 a53 := Tryz.isAgg224
 z53 := Tryz.sizeOf224
 v53 := Tryz.zeroValue224
 t131 := Tryz.underlying54
 a131 := Tryz.isAgg54
 z131 := Tryz.sizeOf54
 v131 := Tryz.zeroValue54
 t182 := Tryz.underlying231
 a182 := Tryz.isAgg231
 z182 := Tryz.sizeOf231
 v182 := Tryz.zeroValue231
 t183 := Tryz.underlying232
 a183 := Tryz.isAgg232
 z183 := Tryz.sizeOf232
 v183 := Tryz.zeroValue232
 t218 := Tryz.underlying262
 a218 := Tryz.isAgg262
 z218 := Tryz.sizeOf262
 v218 := Tryz.zeroValue262
 t222 := Tryz.underlying266
 a222 := Tryz.isAgg266
 z222 := Tryz.sizeOf266
 v222 := Tryz.zeroValue266
 t228 := Tryz.underlying283
 a228 := Tryz.isAgg283
 z228 := Tryz.sizeOf283
 v228 := Tryz.zeroValue283
 t229 := Tryz.underlying284
 a229 := Tryz.isAgg284
 z229 := Tryz.sizeOf284
 v229 := Tryz.zeroValue284 }
open Go.Sort Go.RowKit in
theorem Tryz.slices_Sort_int (blk off cap : Nat) (zs : List Int) (w : World) (hH : Holds (Value.int .i64) w blk off zs.toArray) (hblk : blk < w.heap.size) (hsz : zs.length < 4611686018427387904) :
 Calls Tryz.prog 101 #[.slice (some ⟨blk, off, none⟩) zs.length cap] w fun e w' =>
  e = .returned (.tuple #[]) ∧ ∃ n os, w' = grow (putRow (Value.int .i64) (Sort.ahead w n) blk off (zs.mergeSort fun x y => decide (x ≤ y)).toArray) os := Any.slices_Sort_int Tryz.lays189 blk off cap zs w hH hblk hsz
def Tryz.lays108_ren : Go.Shelf.Ren := ⟨fun | 108 => 103 | n => n, fun | 28 => 122 | 3 => 3 | 0 => 0 | 4 => 4 | n => n, fun | n => n⟩
theorem Tryz.lays108 : Go.Proofs.Lays.n108 Tryz.prog Tryz.lays108_ren := {
 mixed := by kernel_rfl
 f108 := Tryz.func103.trans (congrArg some (by kernel_rfl))
 t0 := Tryz.underlying0
 a0 := Tryz.isAgg0
 z0 := Tryz.sizeOf0
 v0 := Tryz.zeroValue0
 t3 := Tryz.underlying3
 a3 := Tryz.isAgg3
 z3 := Tryz.sizeOf3
 v3 := Tryz.zeroValue3
 t4 := Tryz.underlying4
 a4 := Tryz.isAgg4
 z4 := Tryz.sizeOf4
 v4 := Tryz.zeroValue4
 t28 := Tryz.underlying122
 a28 := Tryz.isAgg122
 z28 := Tryz.sizeOf122
 v28 := Tryz.zeroValue122 }
open Go.Lib in
theorem Tryz.slices_Index_int (b off n c : Nat) (zs : List Int) (x : Int) (w : World) (hz : n ≤ zs.length) (hbig : n ≤ 9223372036854775807) (hc : ∀ j, j < zs.length → w.cell? ⟨b, off + j, none⟩ = some (.int .i64 (zs.getD j 0))) :
 Calls Tryz.prog 103 #[.slice (some ⟨b, off, none⟩) n c, .int .i64 x] w fun e w' => e = .returned (.int .i64 (Lib.idxOf (zs.take n) x)) ∧ w' = w := Any.slices_Index_int Tryz.lays108 b off n c zs x w hz hbig hc
def Tryz.lays107_ren : Go.Shelf.Ren := ⟨fun | 107 => 63 | 108 => 103 | n => n, fun | 28 => 122 | 3 => 3 | 4 => 4 | 0 => 0 | n => n, fun | n => n⟩
theorem Tryz.lays107 : Go.Proofs.Lays.n107 Tryz.prog Tryz.lays107_ren := {
 mixed := by kernel_rfl
 f107 := Tryz.func63.trans (congrArg some (by kernel_rfl))
 f108 := Tryz.func103.trans (congrArg some (by kernel_rfl))
 t0 := Tryz.underlying0
 a0 := Tryz.isAgg0
 z0 := Tryz.sizeOf0
 v0 := Tryz.zeroValue0
 t3 := Tryz.underlying3
 a3 := Tryz.isAgg3
 z3 := Tryz.sizeOf3
 v3 := Tryz.zeroValue3
 t4 := Tryz.underlying4
 a4 := Tryz.isAgg4
 z4 := Tryz.sizeOf4
 v4 := Tryz.zeroValue4
 t28 := Tryz.underlying122
 a28 := Tryz.isAgg122
 z28 := Tryz.sizeOf122
 v28 := Tryz.zeroValue122 }
open Go.Lib in
theorem Tryz.slices_Contains_int (b off n c : Nat) (zs : List Int) (x : Int) (w : World) (hz : n ≤ zs.length) (hbig : n ≤ 9223372036854775807) (hc : ∀ j, j < zs.length → w.cell? ⟨b, off + j, none⟩ = some (.int .i64 (zs.getD j 0))) :
 Calls Tryz.prog 63 #[.slice (some ⟨b, off, none⟩) n c, .int .i64 x] w fun e w' => e = .returned (.bool ((zs.take n).contains x)) ∧ w' = w := Any.slices_Contains_int Tryz.lays107 b off n c zs x w hz hbig hc
def Tryz.laysNm220_ren : Go.Shelf.Ren := ⟨fun | 20 => 102 | n => n, fun | 22 => 122 | 3 => 3 | 4 => 4 | 0 => 0 | n => n, fun | n => n⟩
theorem Tryz.laysNm220 : Go.Proofs.Lays2.n20 Tryz.prog Tryz.laysNm220_ren := {
 mixed := by kernel_rfl
 f20 := Tryz.func102.trans (congrArg some (by kernel_rfl))
 t0 := Tryz.underlying0
 a0 := Tryz.isAgg0
 z0 := Tryz.sizeOf0
 v0 := Tryz.zeroValue0
 t3 := Tryz.underlying3
 a3 := Tryz.isAgg3
 z3 := Tryz.sizeOf3
 v3 := Tryz.zeroValue3
 t4 := Tryz.underlying4
 a4 := Tryz.isAgg4
 z4 := Tryz.sizeOf4
 v4 := Tryz.zeroValue4
 t22 := Tryz.underlying122
 a22 := Tryz.isAgg122
 z22 := Tryz.sizeOf122
 v22 := Tryz.zeroValue122
 i3 := by kernel_rfl }
open Go.RowKit Go.Lib Go.Sort in
theorem Tryz.slices_Compact_int (blk off cap : Nat) (zs : List Int) (w : World) (hH : Holds (Value.int .i64) w blk off zs.toArray) (hsz : zs.length ≤ 9223372036854775807) (hcap : zs.length ≤ cap) :
 Calls Tryz.prog 102 #[.slice (some ⟨blk, off, none⟩) zs.length cap] w fun e w' => e = .returned (.slice (some ⟨blk, off, none⟩) (Lib.compact zs).length cap) ∧ ∃ q, w' = putRow (Value.int .i64) (Sort.ahead w q) blk off (Lib.compact zs ++ List.replicate (zs.length - (Lib.compact zs).length) 0).toArray := Any.slices_Compact_int Tryz.laysNm220 blk off cap zs w hH hsz hcap
open Go.RowKit Go.Lib Go.Sort in
theorem Tryz.slices_Compact_int_empty (a : Option Addr) (cap : Nat) (w : World) :
 Calls Tryz.prog 102 #[.slice a 0 cap] w fun e w' => e = .returned (.slice a 0 cap) ∧ w' = w := Any.slices_Compact_int_empty Tryz.laysNm220 a cap w
open Go.RowKit Go.Sort in
theorem Tryz.slices_Sort_int_none (p : Option Addr) (cap : Nat) (w : World) :
 Calls Tryz.prog 101 #[.slice p 0 cap] w fun e w' => e = .returned (.tuple #[]) ∧ w' = w := Any.slices_Sort_int_none Tryz.lays189 p cap w
theorem Tryz.laysSort : Go.Proofs.Lays.n189 Tryz.prog Tryz.lays189_ren := Tryz.lays189
theorem Tryz.laysCompact : Go.Proofs.Lays2.n20 Tryz.prog Tryz.laysNm220_ren := Tryz.laysNm220
end Go.Proofs
