/- Parts of a chain of lemmas: Open, OpenEv, App, Cut. Conditions: those of each theorem. -/
import Derived.Test.YtdmdohjdmnmabaaGreatQw02
import Derived.Deep.Slices
import Derived.Deep.Fields
import Derived.ChangeSame
import Derived.Test.YtdmdohjdmnmabaaGreatQw01
import Derived.Maps.AppendAt
import Derived.Deep.AppendLies
import Derived.Deep.RegionLaw
import Derived.BigRegion
import Derived.RegionTactic
import Derived.BigQuiet
import Derived.Deep.QuietTactic
import Derived.Deep.RegionHeld3
namespace Go.Proofs.YtdmdohjdmnmabaaGreat
open Go.ChangeShapes Go.WideShapes Go.ChangeAt Go.RowKit Go.Deep

def flat {α : Type} (enc : α → List Value) (l : List α) : List Value := (l.map enc).flatten
theorem flat_nil {α : Type} (enc : α → List Value) : flat enc [] = [] := rfl
theorem flat_cons {α : Type} (enc : α → List Value) (a : α) (l : List α) : flat enc (a :: l) = enc a ++ flat enc l := rfl
theorem flat_append {α : Type} (enc : α → List Value) (a b : List α) : flat enc (a ++ b) = flat enc a ++ flat enc b := by simp [flat]
theorem flat_len {α : Type} (enc : α → List Value) (n : Nat) (h : ∀ a, (enc a).length = n) (l : List α) : (flat enc l).length = l.length * n := by
 induction l with
 | nil => simp [flat]
 | cons a l ih => rw [flat_cons, List.length_append, h, ih, List.length_cons, Nat.add_mul]; omega
theorem flat_at {α : Type} (enc : α → List Value) (n : Nat) (h : ∀ a, (enc a).length = n) : ∀ (l : List α) (k j : Nat) (a : α), l[k]? = some a → j < n → (flat enc l)[k * n + j]? = (enc a)[j]?
 | [], k, j, a, hk, _ => by simp at hk
 | b :: l, 0, j, a, hk, hj => by
  simp at hk
  subst hk
  rw [flat_cons, List.getElem?_append_left (by rw [h]; omega)]
  simp
 | b :: l, k + 1, j, a, hk, hj => by
  have hk' : l[k]? = some a := by simpa using hk
  rw [flat_cons, List.getElem?_append_right (by rw [h, Nat.add_mul]; omega), h, ← flat_at enc n h l k j a hk' hj]
  congr 1
  rw [Nat.add_mul]; omega
theorem exists_map {α : Type} {enc : α → List Value} {ok : α → Prop} : ∀ (xs : List (List Value)), (∀ x ∈ xs, ∃ a, x = enc a ∧ ok a) → ∃ l : List α, xs = l.map enc ∧ ∀ a ∈ l, ok a
 | [], _ => ⟨[], rfl, by simp⟩
 | x :: xs, h => by
  obtain ⟨a, ha, oka⟩ := h x (by simp)
  obtain ⟨l, hl, okl⟩ := exists_map xs (fun y hy => h y (by simp [hy]))
  exact ⟨a :: l, by rw [ha, hl]; rfl, by simp; exact ⟨oka, okl⟩⟩

section
variable {H : Type} {enc : TypeId × Value → H} {P : Program} {w : World}
theorem spot_none {a : Addr} {v : Value} (h : w.cell? a = some v) : a.spot = none := by
 unfold World.cell? at h
 split at h
 ·split at h
  ·cases h
  ·rename_i hs
   simpa using hs
 ·cases h
theorem add_block (a : Addr) (n : Nat) : (a.add n).block = a.block := by unfold Addr.add; split <;> rfl

/-- an argument that is a slice: its elements' cells, each as Q says -/
theorem open_rows {t e : TypeId} {v : Value} {d : DataW H} {p : List MemPlace} {sz : Nat} {Q : List Value → Prop} (ht : P.underlying t = some (.slice e)) (hsz : P.cellsOf e = sz) (hpos : 0 < sz)
 (hv : ∃ a n c, v = .slice a n c) (h : DataW.Trod enc P w 0 (fun _ => true) true t v d p) (hQ : ∀ fuel cs x, DataW.trod enc P w 0 (fun _ => true) true fuel e cs = some x → Q cs) :
 ∃ (A : Option Addr) (n c : Nat) (xs : List (List Value)), v = .slice A n c ∧ xs.length = n ∧ n ≤ c ∧ c ≤ maxLen ∧ Rd w NoBlk A xs.flatten ∧ (∀ x ∈ xs, x.length = sz ∧ Q x) ∧
  (d = .nil ∧ n = 0 ∨ ∃ el sp, d = .slice el sp ∧ el.length = n) := by
 obtain ⟨a0, n0, c0, rfl⟩ := hv
 obtain ⟨fuel, hf⟩ := h
 rcases open_slice ht hf with ⟨hcs, hx⟩ | ⟨a, len, cap, m, n, D, Pl, hcs, _, hl, hm, hmm, hx, hi⟩
 ·have e0 : Value.slice a0 n0 c0 = .slice none 0 0 := by simpa [Value.cells] using hcs
  injection e0 with e1 e2 e3
  subst e1 e2 e3
  simp only [Prod.mk.injEq] at hx
  exact ⟨none, 0, 0, [], rfl, rfl, Nat.le_refl _, by simp [maxLen], Or.inl rfl, by simp, Or.inl ⟨hx.1, rfl⟩⟩
 ·have e0 : Value.slice a0 n0 c0 = .slice (some a) len cap := by simpa [Value.cells] using hcs
  injection e0 with e1 e2 e3
  subst e1 e2 e3
  have hm' : m = c0 := by simpa using hmm
  have hcell : ∀ i, i < n0 → ∃ cs', w.cells? 0 (a.add (i * sz)) sz = some cs' ∧ cs'.length = sz ∧ Q cs' ∧ ∀ j, j < sz → w.cell? (a.add (i * sz + j)) = cs'[j]? := by
   intro i hlt
   obtain ⟨cs', hc, ht'⟩ := hi i (by omega)
   rw [hsz] at hc
   obtain ⟨_, hcl, hat⟩ := World.cells?_some hc
   refine ⟨cs', hc, hcl, hQ _ _ _ ht', fun j hj => ?_⟩
   rw [← Go.Deep.add_add]
   exact hat j hj
  have hxs : ∃ xs : List (List Value), xs.length = n0 ∧ (∀ x ∈ xs, x.length = sz ∧ Q x) ∧ ∀ j, j < n0 * sz → w.cell? (a.add j) = xs.flatten[j]? := by
   clear hi hf hx hcs hm hmm hm' D Pl
   induction n0 with
   | zero => exact ⟨[], rfl, by simp, by simp⟩
   | succ k ih =>
    obtain ⟨xs, h1, h2, h3⟩ := ih (by omega) (fun i hik => hcell i (by omega))
    obtain ⟨cs', _, hcl, hq, hat⟩ := hcell k (by omega)
    refine ⟨xs ++ [cs'], by simp [h1], ?_, fun j hj => ?_⟩
    ·intro x hx
     simp only [List.mem_append, List.mem_singleton] at hx
     rcases hx with hx | rfl
     ·exact h2 x hx
     ·exact ⟨hcl, hq⟩
    ·have hfl : xs.flatten.length = k * sz := by
      have := flat_len (fun x : List Value => x.take sz ++ List.replicate (sz - x.length) undef) sz (fun a => by simp; omega) xs
      rw [h1] at this
      rw [← this]
      unfold flat
      congr 1
      congr 1
      have : xs.map (fun x : List Value => x.take sz ++ List.replicate (sz - x.length) undef) = xs.map id := List.map_congr_left (fun x hx => by
       have hl := (h2 x hx).1
       rw [List.take_of_length_le (by omega)]; simp [hl])
      rw [this]; simp
     rw [List.flatten_append]
     by_cases hjk : j < k * sz
     ·rw [List.getElem?_append_left (by omega), h3 j hjk]
     ·rw [List.getElem?_append_right (by omega), hfl]
      have hs := hat (j - k * sz) (by rw [Nat.add_mul] at hj; omega)
      rw [show k * sz + (j - k * sz) = j by omega] at hs
      rw [hs]; simp
  obtain ⟨xs, h1, h2, h3⟩ := hxs
  refine ⟨some a, n0, c0, xs, rfl, h1, hl, hm, ?_, h2, Or.inr ⟨_, _, by simp only [Prod.mk.injEq] at hx; exact hx.1, by simp⟩⟩
  by_cases hn : n0 = 0
  ·subst hn
   have : xs = [] := List.eq_nil_of_length_eq_zero h1
   subst this
   exact Or.inl rfl
  ·right
   have hfl : xs.flatten.length = n0 * sz := by
    clear h3 hcell hi hf hx hcs
    subst h1
    clear hl hn hmm
    induction xs with
    | nil => simp
    | cons x xs ih =>
     rw [List.flatten_cons, List.length_append, ih (fun y hy => h2 y (by simp [hy])), (h2 x (by simp)).1, List.length_cons, Nat.add_mul]; omega
   have hp0 : 0 < n0 * sz := Nat.mul_pos (by omega) hpos
   have hc0 := h3 0 hp0
   rw [List.getElem?_eq_getElem (by omega)] at hc0
   have hs := spot_none hc0
   have hblk := World.block_lt_of_cell? w _ hc0
   obtain ⟨b, o, s⟩ := a
   have hs' : s = none := by
    unfold Addr.add at hs
    simpa using hs
   subst hs'
   refine ⟨b, o, rfl, fun h => h, by simpa [add_block] using hblk, fun j hj => ?_⟩
   have := h3 j (by omega)
   rw [Addr.add_lit] at this
   exact this

/-- a struct of one-cell fields: its cells, one a field -/
theorem struct_cells {t : TypeId} {fs : Array Field} {fuel : Nat} {cs : List Value} {x : DataW H × List MemPlace} {base : Nat} {spare : Nat → Bool} {held : Bool} (hs : P.underlying t = some (.struct fs)) (hone : oneCellFields P fs = true) (hC : P.cellsOf t = fs.size)
 (h : DataW.trod enc P w base spare held fuel t cs = some x) :
 cs.length = fs.size ∧ ∀ (i : Nat) (f : Field), fs[i]? = some f → ∃ v y n, cs[i]? = some v ∧ DataW.trod enc P w base spare held n f.type [v] = some y := by
 obtain ⟨ys, n', _, hy, hlen, hyl, hf⟩ := DataW.trod_struct hs h
 refine ⟨by rw [hlen, hC], fun j f hj => ?_⟩
 obtain ⟨ho, hk⟩ := hone_of hone j f hj
 have hjl : j < fs.size := (Array.getElem?_eq_some_iff.1 hj).1
 have h1 := hf j f hj
 rw [ho, hk] at h1
 have hone' : (cs.drop j).take 1 = [cs[j]'(by omega)] := by
  rw [List.drop_eq_getElem_cons (by omega)]
  rfl
 rw [hone'] at h1
 have hys : ys[j]? = some (ys[j]'(by omega)) := List.getElem?_eq_getElem (by omega)
 exact ⟨_, _, n', List.getElem?_eq_getElem (by omega), h1.trans hys⟩
theorem slice_of_cell {t e : TypeId} {v : Value} {n : Nat} {y : DataW H × List MemPlace} (ht : P.underlying t = some (.slice e)) (h : DataW.trod enc P w 0 (fun _ => true) true n t [v] = some y) : ∃ a n c, v = .slice a n c := by
 rcases open_slice ht h with ⟨hcs, _⟩ | ⟨a, len, cap, _, _, _, _, hcs, _⟩
 ·injection hcs with hcs _
  exact ⟨_, _, _, hcs⟩
 ·injection hcs with hcs _
  exact ⟨_, _, _, hcs⟩
theorem trod_of_cell {t : TypeId} {v : Value} {n : Nat} {y : DataW H × List MemPlace} (hv : ∃ a n c, v = .slice a n c) (h : DataW.trod enc P w 0 (fun _ => true) true n t [v] = some y) : DataW.Trod enc P w 0 (fun _ => true) true t v y.1 y.2 := by
 obtain ⟨a, k, c, rfl⟩ := hv
 exact ⟨n, h⟩
end
end Go.Proofs.YtdmdohjdmnmabaaGreat
namespace Go.Proofs.YtdmdohjdmnmabaaGreat
open Go.ChangeShapes Go.WideShapes Go.ChangeAt Go.RowKit Go.Deep
theorem flat_cells {α : Type} {enc : α → List Value} {n : Nat} (hn : ∀ a, (enc a).length = n) {l : List α} {w : World} {M : Nat → Prop} {A : Option Addr} (hr : Rd w M A (flat enc l)) (k : Nat) (a : α) (hk : l[k]? = some a) (h0 : 0 < n) :
 ∃ b o, A = some ⟨b, o, none⟩ ∧ ¬ M b ∧ b < w.heap.size ∧ ∀ j, j < n → w.cell? ⟨b, o + k * n + j, none⟩ = (enc a)[j]? := by
 have hkl : k < l.length := (List.getElem?_eq_some_iff.1 hk).1
 have hfl := flat_len enc n hn l
 have h1 : k * n + n ≤ l.length * n := by
  rw [← Nat.succ_mul]
  exact Nat.mul_le_mul_right n hkl
 obtain ⟨b, o, hA, hm, hb, hc⟩ := hr.at_ (j := k * n) (by omega)
 refine ⟨b, o, hA, hm, hb, fun j hj => ?_⟩
 rw [Nat.add_assoc, hc (k * n + j) (by omega)]
 exact flat_at enc n hn l k j a hk hj
def intOfV : Value → Int
 | .int _ n => n
 | _ => 0
section
variable {H : Type} {enc : TypeId × Value → H} {P : Program} {w : World}
theorem all_ints {t : TypeId} {fs : Array Field} {fuel : Nat} {cs : List Value} {x : DataW H × List MemPlace} {base : Nat} {spare : Nat → Bool} {held : Bool} (hs : P.underlying t = some (.struct fs)) (hone : oneCellFields P fs = true) (hC : P.cellsOf t = fs.size)
 (hi : ∀ (j : Nat) (f : Field), fs[j]? = some f → P.underlying f.type = some (.int .i64)) (h : DataW.trod enc P w base spare held fuel t cs = some x) :
 cs.length = fs.size ∧ ∀ j, j < fs.size → cs[j]? = some (.int .i64 (intOfV (cs.getD j undef))) := by
 obtain ⟨hl, hf⟩ := struct_cells hs hone hC h
 refine ⟨hl, fun j hj => ?_⟩
 have hfj : fs[j]? = some (fs[j]'hj) := Array.getElem?_eq_getElem hj
 obtain ⟨v, y, n, hv, ht⟩ := hf j _ hfj
 obtain ⟨k, hc, _, _⟩ := DataW.trod_int (hi j _ hfj) ht
 injection hc with hc _
 subst hc
 rw [hv]
 simp [List.getD, hv, intOfV]
end
theorem list6 {α : Type} {l : List α} {a b c d e f : α} (h : l.length = 6) (h0 : l[0]? = some a) (h1 : l[1]? = some b) (h2 : l[2]? = some c) (h3 : l[3]? = some d) (h4 : l[4]? = some e) (h5 : l[5]? = some f) : l = [a, b, c, d, e, f] := by
 match l, h with
 | [x0, x1, x2, x3, x4, x5], _ => simp at h0 h1 h2 h3 h4 h5; rw [h0, h1, h2, h3, h4, h5]
set_option maxRecDepth 100000 in
theorem step_of {H : Type} {enc : TypeId × Value → H} {w : World} {fuel : Nat} {cs : List Value} {x : DataW H × List MemPlace} (h : DataW.trod enc Tryz.prog w 0 (fun _ => true) true fuel 26 cs = some x) : ∃ s : Stp, cs = encStp s := by
 obtain ⟨hl, hf⟩ := all_ints (fs := _) Tryz.underlying26 (by kernel_rfl) (by kernel_rfl) (by
  intro j f hf
  rcases j with _ | _ | _ | _ | _ | _ | j
  ·injection hf with hf; subst hf; exact Tryz.underlying2
  ·injection hf with hf; subst hf; exact Tryz.underlying3
  ·injection hf with hf; subst hf; exact Tryz.underlying3
  ·injection hf with hf; subst hf; exact Tryz.underlying3
  ·injection hf with hf; subst hf; exact Tryz.underlying3
  ·injection hf with hf; subst hf; exact Tryz.underlying3
  ·simp at hf) h
 exact ⟨⟨_, _, _, _, _, _⟩, list6 hl (hf 0 (by decide)) (hf 1 (by decide)) (hf 2 (by decide)) (hf 3 (by decide)) (hf 4 (by decide)) (hf 5 (by decide))⟩
theorem take1 {α : Type} {l : List α} {i : Nat} {v : α} (h : (l.drop i).take 1 = [v]) : l[i]? = some v := by
 have h1 := congrArg (fun l => l[0]?) h
 simp only [List.getElem?_take, List.getElem?_drop, List.getElem?_cons_zero] at h1
 simpa using h1
set_option maxRecDepth 100000 in
theorem ev_of {H : Type} {enc : TypeId × Value → H} {w : World} {fuel : Nat} {cs : List Value} {x : DataW H × List MemPlace} (h : DataW.trod enc Tryz.prog w 0 (fun _ => true) true fuel 82 cs = some x) : ∃ e : Ev, cs = encEv e ∧ e.s.size ≤ maxLen := by
 obtain ⟨ys, n, _, _, hl, hyl0, hf⟩ := DataW.trod_struct Tryz.underlying82 h
 have hC : Tryz.prog.cellsOf 82 = 12 := by kernel_rfl
 rw [hC] at hl
 have hyl : ys.length = 7 := hyl0
 have c0 : Tryz.prog.cellsOf 3 = 1 := by kernel_rfl
 have g0 : DataW.trod enc Tryz.prog w 0 (fun _ => true) true n 3 ((cs.drop 0).take (Tryz.prog.cellsOf 3)) = ys[0]? := hf 0 _ rfl
 rw [c0, List.getElem?_eq_getElem (by omega)] at g0
 obtain ⟨z0, e0, _, _⟩ := DataW.trod_int Tryz.underlying3 g0
 have c1 : Tryz.prog.cellsOf 3 = 1 := by kernel_rfl
 have g1 : DataW.trod enc Tryz.prog w 0 (fun _ => true) true n 3 ((cs.drop 1).take (Tryz.prog.cellsOf 3)) = ys[1]? := hf 1 _ rfl
 rw [c1, List.getElem?_eq_getElem (by omega)] at g1
 obtain ⟨z1, e1, _, _⟩ := DataW.trod_int Tryz.underlying3 g1
 have c2 : Tryz.prog.cellsOf 3 = 1 := by kernel_rfl
 have g2 : DataW.trod enc Tryz.prog w 0 (fun _ => true) true n 3 ((cs.drop 2).take (Tryz.prog.cellsOf 3)) = ys[2]? := hf 2 _ rfl
 rw [c2, List.getElem?_eq_getElem (by omega)] at g2
 obtain ⟨z2, e2, _, _⟩ := DataW.trod_int Tryz.underlying3 g2
 have c3 : Tryz.prog.cellsOf 2 = 1 := by kernel_rfl
 have g3 : DataW.trod enc Tryz.prog w 0 (fun _ => true) true n 2 ((cs.drop 3).take (Tryz.prog.cellsOf 2)) = ys[3]? := hf 3 _ rfl
 rw [c3, List.getElem?_eq_getElem (by omega)] at g3
 obtain ⟨z3, e3, _, _⟩ := DataW.trod_int Tryz.underlying2 g3
 have c4 : Tryz.prog.cellsOf 9 = 1 := by kernel_rfl
 have g4 : DataW.trod enc Tryz.prog w 0 (fun _ => true) true n 9 ((cs.drop 4).take (Tryz.prog.cellsOf 9)) = ys[4]? := hf 4 _ rfl
 rw [c4, List.getElem?_eq_getElem (by omega)] at g4
 obtain ⟨z4, e4, _, hw4⟩ := DataW.trod_string Tryz.underlying9 g4
 have c5 : Tryz.prog.cellsOf 80 = 1 := by kernel_rfl
 have g5 : DataW.trod enc Tryz.prog w 0 (fun _ => true) true n 80 ((cs.drop 5).take (Tryz.prog.cellsOf 80)) = ys[5]? := hf 5 _ rfl
 rw [c5, List.getElem?_eq_getElem (by omega)] at g5
 obtain ⟨z5, e5, _, _⟩ := DataW.trod_int Tryz.underlying80 g5
 have c6 : Tryz.prog.cellsOf 26 = 6 := by kernel_rfl
 have g6 : DataW.trod enc Tryz.prog w 0 (fun _ => true) true n 26 ((cs.drop 6).take (Tryz.prog.cellsOf 26)) = ys[6]? := hf 6 _ rfl
 rw [c6, List.getElem?_eq_getElem (by omega)] at g6
 obtain ⟨st, e6⟩ := step_of g6
 have e6' : cs.drop 6 = encStp st := by
  rw [← e6]
  exact (List.take_of_length_le (by rw [List.length_drop]; omega)).symm
 refine ⟨⟨z0, z1, z2, z3, z4, z5, st⟩, ?_, hw4⟩
 have h6 : cs = cs.take 6 ++ cs.drop 6 := (List.take_append_drop 6 cs).symm
 rw [h6, e6']
 have h5 : cs.take 6 = [.int .i64 z0, .int .i64 z1, .int .i64 z2, .int .i64 z3, .string z4, .int .i64 z5] := by
  have hlt : (cs.take 6).length = 6 := by rw [List.length_take]; omega
  refine list6 hlt ?_ ?_ ?_ ?_ ?_ ?_
  ·rw [List.getElem?_take, if_pos (by omega)]; exact take1 e0
  ·rw [List.getElem?_take, if_pos (by omega)]; exact take1 e1
  ·rw [List.getElem?_take, if_pos (by omega)]; exact take1 e2
  ·rw [List.getElem?_take, if_pos (by omega)]; exact take1 e3
  ·rw [List.getElem?_take, if_pos (by omega)]; exact take1 e4
  ·rw [List.getElem?_take, if_pos (by omega)]; exact take1 e5
 rw [h5]
 rfl
def evD : Ev := ⟨0, 0, 0, 0, ⟨#[]⟩, 0, ⟨0, 0, 0, 0, 0, 0⟩⟩
def evAt (l : List Ev) (k : Nat) : Ev := l.getD k evD
theorem evAt_some {l : List Ev} {k : Nat} (h : k < l.length) : l[k]? = some (evAt l k) := by simp [evAt, List.getD, h]
set_option maxRecDepth 100000 in
theorem open_evs {H : Type} {enc : TypeId × Value → H} {w : World} {v : Value} {d : DataW H} {p : List MemPlace} (hv : ∃ a n c, v = .slice a n c) (h : DataW.Trod enc Tryz.prog w 0 (fun _ => true) true 38 v d p) :
 ∃ (A : Option Addr) (c : Nat) (l : List Ev), v = .slice A l.length c ∧ l.length ≤ c ∧ c ≤ maxLen ∧ Rd w NoBlk A (flat encEv l) ∧ ∀ x ∈ l, x.s.size ≤ maxLen := by
 obtain ⟨A, n, c, xs, hv', hl, hnc, hcm, hr, hq, _⟩ := open_rows (sz := 12) (Q := fun cs => ∃ a : Ev, cs = encEv a ∧ a.s.size ≤ maxLen) Tryz.underlying38 (by kernel_rfl) (by omega) hv h (fun fuel cs x hx => ev_of hx)
 obtain ⟨l, hxl, hok⟩ := exists_map (enc := encEv) xs (fun x hx => (hq x hx).2)
 subst hxl
 have hln : l.length = n := by simpa using hl
 subst hln
 exact ⟨A, c, l, hv', hnc, hcm, hr, hok⟩
end Go.Proofs.YtdmdohjdmnmabaaGreat
namespace Go.Proofs.YtdmdohjdmnmabaaGreat
open Go.RowKit
set_option linter.unusedVariables false

section
variable {P : Program} (w : World)
theorem run_append_of_nil (base : Nat) (t ty e : TypeId) (i : TypeInfo) (size : Nat) (ht : P.underlying t = some (.slice e)) (hi : P.info? e = some i)
 (v : Value) (n : Nat) (xs : List Value) (hown : w.ownsRow base e size v n xs) (c : Nat) : (Builtin.append_ #[t, t] ty #[v, .slice none 0 c]).run P w = .ok v w := by
 rcases hown.2 with ⟨rfl, rfl⟩ | ⟨g, cap, cur, rfl, _, _, hnc, _⟩
 ·simp [Builtin.append_, run_underlying ht, sizeOf, typeInfo, hi, Builtin.lenOf, Builtin.firstCells]
 ·simp [Builtin.append_, run_underlying ht, sizeOf, typeInfo, hi, Builtin.lenOf, Builtin.firstCells, hnc, storeCells]
theorem run_append_rd (base : Nat) (t ty e : TypeId) (i : TypeInfo) (z : Value) (size bytes : Nat) (ht : P.underlying t = some (.slice e)) (hi : P.info? e = some i) (hz : i.zero = some z)
 (hsize : i.size = size) (hby : i.bytes = bytes) (hzs : z.cells.size = size) (hsz : 0 < size)
 (v : Value) (n : Nat) (xs : List Value) (hown : w.ownsRow base e size v n xs)
 (M : Nat → Prop) (A : Option Addr) (m c : Nat) (news : List Value) (hr : Rd w M A news) (hl : news.length = m * size) (h1 : ∀ u ∈ news, u.oneCell' = true)
 (h63 : n + m ≤ maxLen) (hbytes : (n + m) * bytes ≤ 140737488355328) (hbase : base ≤ w.heap.size) :
 ∃ v' w', (Builtin.append_ #[t, t] ty #[v, .slice A m c]).run P w = .ok v' w' ∧ w'.ownsRow base e size v' (n + m) (xs ++ news) ∧ w.grownBy w' v.ownBlock ∧
  (v'.ownBlock = v.ownBlock ∨ v'.ownBlock = some w.heap.size) := by
 rcases hr with hn | ⟨b, o, hA, _, _, hc⟩
 ·subst hn
  have hm : m = 0 := by
   rcases Nat.eq_zero_or_pos m with h0 | h0
   ·exact h0
   ·have := Nat.mul_pos h0 hsz
    simp at hl; omega
  subst hm
  cases A with
  | none => exact ⟨v, w, run_append_of_nil w base t ty e i size ht hi v n xs hown c, by simpa using hown, World.grownBy.refl w _, .inl rfl⟩
  | some ad =>
   obtain ⟨v', w', hrun, h2, h3, _, h5⟩ := run_append_own_at (P := P) w base t ty e i z size bytes ht hi hz hsize hby hzs hsz v n xs hown ad 0 c [] (by simp) (by simp) (by simp) h63 hbytes hbase
   exact ⟨v', w', hrun, h2, h3, h5⟩
 ·subst hA
  have hcells : ∀ j u, news[j]? = some u → w.cell? ((⟨b, o, none⟩ : Addr).add j) = some u := by
   intro j u hu
   rw [Addr.add_lit, ← hu]
   exact hc j (List.getElem?_eq_some_iff.1 hu).1
  obtain ⟨v', w', hrun, h2, h3, _, h5⟩ := run_append_own_at (P := P) w base t ty e i z size bytes ht hi hz hsize hby hzs hsz v n xs hown ⟨b, o, none⟩ m c news hl hcells h1 h63 hbytes hbase
  exact ⟨v', w', hrun, h2, h3, h5⟩
theorem wp_append_rd {o : Oper} {a : Act} {K : Act → World → Prop} {Q : Exit → Act → World → Prop} (s x : Operand) (t : TypeId)
 (ho : o.op = .call { callee := .builtin .append, args := #[s, x], argTypes := #[t, t] })
 (base : Nat) (e : TypeId) (i : TypeInfo) (z : Value) (size bytes : Nat) (ht : P.underlying t = some (.slice e)) (hi : P.info? e = some i) (hz : i.zero = some z)
 (hsize : i.size = size) (hby : i.bytes = bytes) (hzs : z.cells.size = size) (hsz : 0 < size)
 (v : Value) (n : Nat) (xs : List Value) (hs : a.eval s = v) (hown : w.ownsRow base e size v n xs)
 (M : Nat → Prop) (A : Option Addr) (m c : Nat) (news : List Value) (hx : a.eval x = .slice A m c) (hr : Rd w M A news) (hl : news.length = m * size) (h1 : ∀ u ∈ news, u.oneCell' = true)
 (h63 : n + m ≤ maxLen) (hbytes : (n + m) * bytes ≤ 140737488355328) (hbase : base ≤ w.heap.size)
 (h : ∀ v' w', w'.ownsRow base e size v' (n + m) (xs ++ news) → w.grownBy w' v.ownBlock → (v'.ownBlock = v.ownBlock ∨ v'.ownBlock = some w.heap.size) → K (a.put o.dst v') w') : o.wp P a w K Q := by
 obtain ⟨v', w', hrun, h2, h3, h4⟩ := run_append_rd (P := P) w base t o.type e i z size bytes ht hi hz hsize hby hzs hsz v n xs hown M A m c news hr hl h1 h63 hbytes hbase
 unfold Oper.wp execOp
 simp only [ho, resolve, invoke, builtin, Sem.run_bind, Sem.run_pure, Result.andThen_ok, List.map_toArray, List.map_cons, List.map_nil, hs, hx, hrun]
 exact h v' w' h2 h3 h4
theorem wpList_append_rd {ops : Array Oper} {rest : List Oper} {o : Oper} {a : Act} {Q : Exit → Act → World → Prop} (hgd : o.guard = none) (s x : Operand) (t : TypeId)
 (ho : o.op = .call { callee := .builtin .append, args := #[s, x], argTypes := #[t, t] })
 (base : Nat) (e : TypeId) (i : TypeInfo) (z : Value) (size bytes : Nat) (ht : P.underlying t = some (.slice e)) (hi : P.info? e = some i) (hz : i.zero = some z)
 (hsize : i.size = size) (hby : i.bytes = bytes) (hzs : z.cells.size = size) (hsz : 0 < size)
 (v : Value) (n : Nat) (xs : List Value) (hs : a.eval s = v) (hown : w.ownsRow base e size v n xs)
 (M : Nat → Prop) (A : Option Addr) (m c : Nat) (news : List Value) (hx : a.eval x = .slice A m c) (hr : Rd w M A news) (hl : news.length = m * size) (h1 : ∀ u ∈ news, u.oneCell' = true)
 (h63 : n + m ≤ maxLen) (hbytes : (n + m) * bytes ≤ 140737488355328) (hbase : base ≤ w.heap.size)
 (h : ∀ v' w', w'.ownsRow base e size v' (n + m) (xs ++ news) → w.grownBy w' v.ownBlock → (v'.ownBlock = v.ownBlock ∨ v'.ownBlock = some w.heap.size) → wpList P ops Q rest (a.put o.dst v') w') : wpList P ops Q (o :: rest) a w :=
 wpList_plain hgd fun _ hK => wp_append_rd w s x t ho base e i z size bytes ht hi hz hsize hby hzs hsz v n xs hs hown M A m c news hx hr hl h1 h63 hbytes hbase fun v' w' h2 h3 h4 => hK _ _ (h v' w' h2 h3 h4)
theorem step_append_rd {ops : Array Oper} {o : Oper} {a : Act} {K : Act → World → Prop} {Q : Exit → Act → World → Prop} {E : Prop} (hgd : o.guard = none) (s x : Operand) (t : TypeId)
 (ho : o.op = .call { callee := .builtin .append, args := #[s, x], argTypes := #[t, t] })
 (base : Nat) (e : TypeId) (i : TypeInfo) (z : Value) (size bytes : Nat) (ht : P.underlying t = some (.slice e)) (hi : P.info? e = some i) (hz : i.zero = some z)
 (hsize : i.size = size) (hby : i.bytes = bytes) (hzs : z.cells.size = size) (hsz : 0 < size)
 (v : Value) (n : Nat) (xs : List Value) (hs : a.eval s = v) (hown : w.ownsRow base e size v n xs)
 (M : Nat → Prop) (A : Option Addr) (m c : Nat) (news : List Value) (hx : a.eval x = .slice A m c) (hr : Rd w M A news) (hl : news.length = m * size) (h1 : ∀ u ∈ news, u.oneCell' = true)
 (h63 : n + m ≤ maxLen) (hbytes : (n + m) * bytes ≤ 140737488355328) (hbase : base ≤ w.heap.size)
 (h : ∀ v' w', w'.ownsRow base e size v' (n + m) (xs ++ news) → w.grownBy w' v.ownBlock → (v'.ownBlock = v.ownBlock ∨ v'.ownBlock = some w.heap.size) → K (a.put o.dst v') w') :
 if Region.wanted o (yielded ops a.tmps) = true then Oper.wp P o a w K Q else E := by
 have hw : Region.wanted o (yielded ops a.tmps) = true := by simp [Region.wanted, hgd]
 rw [if_pos hw]
 exact wp_append_rd w s x t ho base e i z size bytes ht hi hz hsize hby hzs hsz v n xs hs hown M A m c news hx hr hl h1 h63 hbytes hbase h
end
theorem own_empty {w : World} {base : Nat} {e : TypeId} {size : Nat} (h : base ≤ w.heap.size) : (w.alloc (.cells #[] e)).ownsRow base e size (.slice (some ⟨w.heap.size, 0, none⟩) 0 0) 0 [] :=
 ⟨by simp, Or.inr ⟨w.heap.size, 0, #[], rfl, h, heap_alloc_new _ _, Nat.le_refl _, by unfold maxLen; omega, by simp, by simp⟩⟩
theorem own_empty' {w : World} {base g : Nat} {e : TypeId} {size : Nat} (h : base ≤ w.heap.size) (hg : g = w.heap.size) : (w.alloc (.cells #[] e)).ownsRow base e size (.slice (some ⟨g, 0, none⟩) 0 0) 0 [] := by
 subst hg; exact own_empty h
theorem Rd.alloc {w : World} {M : Nat → Prop} {A : Option Addr} {xs : List Value} (h : Rd w M A xs) (o : Obj) : Rd (w.alloc o) M A xs := h.only ((Only.refl NoBlk _).alloc o) (fun _ h => h.elim)
/-- a block reads as its cells -/
theorem rd_blkN {w : World} {M : Nat → Prop} {g : Nat} {t : TypeId} {xs : List Value} (h : Blk w g t xs.toArray) (hm : ¬ M g) : Rd w M (some ⟨g, 0, none⟩) xs :=
 Or.inr ⟨g, 0, rfl, hm, h.lt, fun j hj => by
  rw [h.cell, List.getElem?_toArray, Nat.zero_add]⟩
theorem own_cap {w : World} {base size n : Nat} {e : TypeId} {v : Value} {xs : List Value} (h : w.ownsRow base e size v n xs) : ∃ A c, v = .slice A n c ∧ n ≤ c := by
 rcases h.2 with ⟨hv, hn⟩ | ⟨g, cap, cur, hv, _, _, hnc, _⟩
 ·exact ⟨none, 0, by rw [hv, hn], by omega⟩
 ·exact ⟨_, cap, hv, hnc⟩
end Go.Proofs.YtdmdohjdmnmabaaGreat
namespace Go.Proofs.YtdmdohjdmnmabaaGreat
open Go.RowKit
set_option linter.unusedVariables false

theorem below_drewN (w : World) (n : Nat) : Below w.heap.size w (w.drewN n) := ⟨rfl, rfl, rfl, Nat.le_refl _, fun _ _ => rfl⟩
theorem below_drew (w : World) : Below w.heap.size w w.drew := ⟨rfl, rfl, rfl, Nat.le_refl _, fun _ _ => rfl⟩
theorem below_alloc (w : World) (o : Obj) : Below w.heap.size w (w.alloc o) := (Below.refl _ _).alloc (Nat.le_refl _) _
def cutS (s : ByteArray) (most : Nat) : ByteArray := if most < s.size then s.extract 0 most else s
theorem cutS_size (s : ByteArray) (most : Nat) : (cutS s most).size = min s.size most := by
 unfold cutS
 split
 ·rw [ba_sub_size s 0 most (by omega) (by omega)]; omega
 ·omega
theorem cutS_c (s : ByteArray) (most : Nat) (w : World) (hm : most ≤ 100000) :
 Calls Tryz.prog 38 #[.string s, .int .i64 most] w fun e w' => e = .returned (.string (cutS s most)) ∧ w = w' := by
 unfold cutS
 by_cases h : most < s.size
 ·rw [if_pos h]
  have hle : most ≤ s.size := by omega
  go_enter Tryz.func38, Tryz.ntmps38
  go_wp2
  go_ret
  exact ⟨rfl, rfl⟩
 ·rw [if_neg h]
  have hd : decide ((most : Int) < s.size) = false := by simp; omega
  have hd2 : decide (most < s.size) = false := by simp; omega
  go_enter Tryz.func38, Tryz.ntmps38
  go_wp2
  go_ret
  exact ⟨rfl, rfl⟩
/-- events that are returned -/
def RetEvs (M : Nat → Prop) (L : List Ev) (w : World) (e : Ending) (w' : World) : Prop :=
 ∃ A c, e = .returned (.slice A L.length c) ∧ Rd w' M A (flat encEv L) ∧ Below w.heap.size w w' ∧ L.length ≤ c
theorem encEv_one (x : Ev) : ∀ u ∈ encEv x, u.oneCell' = true := by
 intro u hu
 simp [encEv] at hu
 rcases hu with rfl | rfl | rfl | rfl | rfl | rfl | rfl | rfl | rfl | rfl | rfl | rfl <;> rfl
theorem Tryz.infoEv : (Tryz.prog.info? 82).map (fun i => (i.zero, i.size, i.bytes)) = some (some (.agg #[.int .i64 0, .int .i64 0, .int .i64 0, .int .i64 0, .string ⟨#[]⟩, .int .i64 0, .int .i64 0, .int .i64 0, .int .i64 0, .int .i64 0, .int .i64 0, .int .i64 0]), 12, 104) := by kernel_rfl
theorem Tryz.infoInp : (Tryz.prog.info? 137).map (fun i => (i.zero, i.size, i.bytes)) = some (some (.agg #[.int .i64 0, .string ⟨#[]⟩, .int .i64 0, .int .i64 0]), 4, 40) := by kernel_rfl
theorem Tryz.infoStp : (Tryz.prog.info? 26).map (fun i => (i.zero, i.size, i.bytes)) = some (some (.agg #[.int .i64 0, .int .i64 0, .int .i64 0, .int .i64 0, .int .i64 0, .int .i64 0]), 6, 48) := by kernel_rfl
theorem Tryz.infoOut : (Tryz.prog.info? 197).map (fun i => (i.zero, i.size, i.bytes)) = some (some (.agg #[.int .i64 0, .string ⟨#[]⟩, .int .i64 0, .int .i64 0, .int .i64 0, .int .i64 0, .int .i64 0, .int .i64 0, .bool false]), 9, 80) := by kernel_rfl
def fewL (l : List Ev) (m : Nat) : List Ev := (l.take m).map fun x => { x with s := cutS x.s 24 }
end Go.Proofs.YtdmdohjdmnmabaaGreat
