/- Parts of a chain of lemmas: Del, DelWt. Conditions: those of each theorem. -/
import Derived.Test.YtdmdohjdmnmabaaGreatQw05
import Derived.Test.YtdmdohjdmnmabaaGreatQw03
import Derived.Laws.IdiomCopy
import Derived.Test.YtdmdohjdmnmabaaGreatQw49
import Derived.BigFrame
import Derived.Deep.RegionHeld3
namespace Go.Proofs.YtdmdohjdmnmabaaGreat
open Go.RowKit
set_option linter.unusedVariables false
set_option linter.unusedSimpArgs false

section
variable {α : Type}
/-- the place of the first one of which p holds -/
def idxG (p : α → Bool) (l : List α) : Int := if l.any p = true then (l.findIdx p : Int) else -1
theorem idxG_at (p : α → Bool) (l : List α) (k : Nat) (x : α) (hx : l[k]? = some x) (h : ∀ y ∈ l.take k, p y = false) (hp : p x = true) : idxG p l = k := by
 obtain ⟨hk, e⟩ := List.getElem?_eq_some_iff.1 hx
 unfold idxG
 have ha : l.any p = true := List.any_eq_true.2 ⟨x, List.mem_of_getElem? hx, hp⟩
 rw [if_pos ha]
 have : l.findIdx p = k := by
  rw [List.findIdx_eq hk]
  refine ⟨by rw [e]; exact hp, fun j hj => ?_⟩
  exact h _ (by rw [List.mem_take_iff_getElem]; exact ⟨j, by omega, rfl⟩)
 rw [this]
theorem idxG_none (p : α → Bool) (l : List α) (h : ∀ y ∈ l, p y = false) : idxG p l = -1 := by
 unfold idxG
 rw [if_neg]
 rw [List.any_eq_true]
 rintro ⟨x, hx, ho⟩
 rw [h x hx] at ho
 cases ho
theorem idxG_or (p : α → Bool) (l : List α) : (idxG p l = -1 ∧ ∀ y ∈ l, p y = false) ∨ ∃ k, k < l.length ∧ idxG p l = k ∧ ∀ y ∈ l.take k, p y = false := by
 by_cases ha : l.any p = true
 ·right
  have hlt : l.findIdx p < l.length := List.findIdx_lt_length.2 (by simpa using List.any_eq_true.1 ha)
  refine ⟨l.findIdx p, hlt, by unfold idxG; rw [if_pos ha], fun y hy => ?_⟩
  obtain ⟨j, hj, rfl⟩ := List.mem_take_iff_getElem.1 hy
  have := List.not_of_lt_findIdx (p := p) (xs := l) (i := j) (by omega)
  simpa using this
 ·left
  have h : ∀ y ∈ l, p y = false := by
   intro y hy
   cases hp : p y with
   | false => rfl
   | true => exact absurd (List.any_eq_true.2 ⟨y, hy, hp⟩) ha
  exact ⟨idxG_none p l h, h⟩
def keepL (p : α → Bool) (l : List α) : List α := l.filter (fun x => !p x)
theorem keep_none {p : α → Bool} {l : List α} (h : ∀ y ∈ l, p y = false) : keepL p l = l := by
 unfold keepL
 rw [List.filter_eq_self]
 intro y hy
 rw [h y hy]; rfl
theorem keep_succ (p : α → Bool) (l : List α) (k : Nat) (x : α) (hx : l[k]? = some x) : keepL p (l.take (k + 1)) = keepL p (l.take k) ++ (if p x = true then [] else [x]) := by
 have e : l.take (k + 1) = l.take k ++ [x] := by rw [List.take_add_one, hx]; rfl
 rw [e]
 unfold keepL
 rw [List.filter_append]
 cases hp : p x <;> simp [hp]
theorem keep_le (p : α → Bool) (l : List α) : (keepL p l).length ≤ l.length := List.length_filter_le _ _
end
theorem frozen_of_block {w w' : World} {g t : Nat} (h : w'.heap[g]? = w.heap[g]?) : w'.frozen? ⟨g, t, none⟩ = w.frozen? ⟨g, t, none⟩ := by
 simp only [World.frozen?, h]
theorem only_setCells (g : Nat) : ∀ (vs : List Value) (o : Nat) (w : World), Only (· = g) w (w.setCells g o vs)
 | [], _, _ => Only.refl _ _
 | v :: r, o, w => ((Only.refl (· = g) w).setCell (Or.inl rfl) v).trans (only_setCells g r (o + 1) _)
theorem frozen_setCells (g t : Nat) : ∀ (vs : List Value) (o : Nat) (w : World), (w.setCells g o vs).frozen? ⟨g, t, none⟩ = w.frozen? ⟨g, t, none⟩
 | [], _, _ => rfl
 | v :: r, o, w => by
  rw [World.setCells, frozen_setCells g t r (o + 1)]
  simp [World.frozen?, World.setCell, Array.getElem?_modify]
  cases w.heap[g]? with
  | none => rfl
  | some ob => cases ob <;> rfl
theorem cell_out {w : World} {g o t : Nat} {vs : List Value} (h : t < o ∨ o + vs.length ≤ t) : (w.setCells g o vs).cell? ⟨g, t, none⟩ = w.cell? ⟨g, t, none⟩ := World.cell?_setCells_out g vs o w ⟨g, t, none⟩ (fun _ _ => h)
/-- a row under way: the first k kept ones K, from q on as it was (L) -/
structure DelAt {α : Type} (enc : α → List Value) (nc : Nat) (w : World) (g n k q : Nat) (K L : List α) : Prop where
 lo : ∀ t, t < k * nc → w.cell? ⟨g, t, none⟩ = (flat enc K)[t]?
 hi : ∀ t, q * nc ≤ t → t < n * nc → w.cell? ⟨g, t, none⟩ = (flat enc L)[t]?
 so : ∀ t, t < n * nc → (w.cell? ⟨g, t, none⟩).isSome = true
 fr : ∀ t, w.frozen? ⟨g, t, none⟩ = false
 lt : g < w.heap.size
section
variable {α : Type} {enc : α → List Value} {nc : Nat} {w w' : World} {g n k q : Nat} {K L : List α}
theorem DelAt.only {S : Nat → Prop} (h : DelAt enc nc w g n k q K L) (j : Only S w w') (hs : ¬ S g) : DelAt enc nc w' g n k q K L := by
 have hc : ∀ t, w'.cell? ⟨g, t, none⟩ = w.cell? ⟨g, t, none⟩ := fun t => j.cell (p := ⟨g, t, none⟩) h.lt hs
 exact ⟨fun t ht => (hc t).trans (h.lo t ht), fun t h1 h2 => (hc t).trans (h.hi t h1 h2), fun t ht => by rw [hc]; exact h.so t ht, fun t => (frozen_of_block (j.block g h.lt hs)).trans (h.fr t), Nat.lt_of_lt_of_le h.lt j.size⟩
theorem DelAt.skip (h : DelAt enc nc w g n k q K L) : DelAt enc nc w g n k (q + 1) K L := ⟨h.lo, fun t h1 h2 => h.hi t (by rw [Nat.add_mul] at h1; omega) h2, h.so, h.fr, h.lt⟩
theorem DelAt.at_ (h : DelAt enc nc w g n k q K L) (henc : ∀ a, (enc a).length = nc) (x : α) (hx : L[q]? = some x) (hqn : q < n) (j : Nat) (hj : j < nc) : w.cell? ⟨g, q * nc + j, none⟩ = (enc x)[j]? := by
 have h1 : q * nc + nc ≤ n * nc := by have := Nat.mul_le_mul_right nc (show q + 1 ≤ n by omega); rw [Nat.add_mul] at this; omega
 rw [h.hi _ (by omega) (by omega), flat_at enc nc henc L q j x hx hj]
theorem DelAt.some_ (h : DelAt enc nc w g n k q K L) (hkn : k < n) (j : Nat) (hj : j < nc) : ∃ u, w.cell? ⟨g, k * nc + j, none⟩ = some u := by
 have h1 : k * nc + nc ≤ n * nc := by have := Nat.mul_le_mul_right nc (show k + 1 ≤ n by omega); rw [Nat.add_mul] at this; omega
 exact Option.isSome_iff_exists.1 (h.so (k * nc + j) (by omega))
theorem DelAt.store (h : DelAt enc nc w g n k q K L) (henc : ∀ a, (enc a).length = nc) (hK : K.length = k) (x : α) (hx : L[q]? = some x) (hkq : k < q) (hqn : q < n) : DelAt enc nc (w.setCells g (k * nc) (enc x)) g n (k + 1) (q + 1) (K ++ [x]) L := by
 have h1 : k * nc + nc ≤ q * nc := by have := Nat.mul_le_mul_right nc (show k + 1 ≤ q by omega); rw [Nat.add_mul] at this; omega
 have h2 : q * nc + nc ≤ n * nc := by have := Nat.mul_le_mul_right nc (show q + 1 ≤ n by omega); rw [Nat.add_mul] at this; omega
 have hsome : ∀ j, j < (enc x).length → (w.cell? ⟨g, k * nc + j, none⟩).isSome = true := fun j hj => h.so _ (by rw [henc] at hj; omega)
 have hin : ∀ j (hj : j < (enc x).length), (w.setCells g (k * nc) (enc x)).cell? ⟨g, k * nc + j, none⟩ = some ((enc x)[j]) := World.cell?_setCells_in g (enc x) (k * nc) w hsome
 have hfk : (flat enc K).length = k * nc := by rw [flat_len enc nc henc, hK]
 refine ⟨fun t ht => ?_, fun t h3 h4 => ?_, fun t ht => ?_, fun t => by rw [frozen_setCells]; exact h.fr t, by have := (only_setCells g (enc x) (k * nc) w).size; have := h.lt; omega⟩
 ·have e : flat enc (K ++ [x]) = flat enc K ++ enc x := by simp [flat]
  rw [e]
  by_cases htk : t < k * nc
  ·rw [cell_out (Or.inl htk), h.lo t htk, List.getElem?_append_left (by omega)]
  ·have : t < k * nc + nc := by rw [Nat.add_mul] at ht; omega
   obtain ⟨j, rfl⟩ : ∃ j, t = k * nc + j := ⟨t - k * nc, by omega⟩
   rw [hin j (by rw [henc]; omega), List.getElem?_append_right (by omega), hfk, show k * nc + j - k * nc = j by omega, List.getElem?_eq_getElem]
 ·rw [cell_out (Or.inr (by rw [henc]; rw [Nat.add_mul] at h3; omega))]
  exact h.hi t (by rw [Nat.add_mul] at h3; omega) h4
 ·by_cases hj : k * nc ≤ t ∧ t < k * nc + nc
  ·obtain ⟨j, rfl⟩ : ∃ j, t = k * nc + j := ⟨t - k * nc, by omega⟩
   rw [hin j (by rw [henc]; omega)]; rfl
  ·rw [cell_out (by rw [henc]; omega)]
   exact h.so t ht
theorem DelAt.cleared (h : DelAt enc nc w g n k q K L) (henc : ∀ a, (enc a).length = nc) (hK : K.length = k) (vs : List Value) : Rd (w.setCells g (k * nc) vs) NoBlk (some ⟨g, 0, none⟩) (flat enc K) := by
 refine Or.inr ⟨g, 0, rfl, fun h => h, by have := (only_setCells g vs (k * nc) w).size; have := h.lt; omega, fun j hj => ?_⟩
 rw [flat_len enc nc henc, hK] at hj
 rw [Nat.zero_add, cell_out (Or.inl hj)]
 exact h.lo j hj
theorem del_of_own {base n : Nat} {e : TypeId} {v : Value} (h : w.ownsRow base e nc v n (flat enc L)) (hn : 0 < n) (hL : L.length = n) (henc : ∀ a, (enc a).length = nc) :
 ∃ g c, v = .slice (some ⟨g, 0, none⟩) n c ∧ base ≤ g ∧ n ≤ c ∧ c ≤ maxLen ∧ ∀ k q, k ≤ q → k ≤ n → DelAt enc nc w g n k q (L.take k) L := by
 obtain ⟨hl, h2⟩ := h
 rcases h2 with ⟨hv, h0⟩ | ⟨g, cap, cur, hv, hb, hh, hnc, hcm, hsz, htk⟩
 ·omega
 ·have hbk : Blk w g e cur := hh
  have hall : ∀ t, t < n * nc → w.cell? ⟨g, t, none⟩ = (flat enc L)[t]? := by
   intro t ht
   rw [hbk.cell, ← htk, List.getElem?_take, if_pos ht]
   simp
  refine ⟨g, cap, hv, hb, hnc, hcm, fun k q hkq hkn => ⟨fun t ht => ?_, fun t _ ht => hall t ht, fun t ht => ?_, fun t => hbk.frozen t, hbk.lt⟩⟩
  ·have hkn2 : k * nc ≤ n * nc := Nat.mul_le_mul_right nc hkn
   rw [hall t (by omega)]
   have e : flat enc L = flat enc (L.take k) ++ flat enc (L.drop k) := by rw [← flat_append, List.take_append_drop]
   rw [e, List.getElem?_append_left (by rw [flat_len enc nc henc, List.length_take]; rw [Nat.min_eq_left (by omega)]; exact ht)]
  ·rw [hall t ht, List.getElem?_eq_getElem (by rw [flat_len enc nc henc, hL]; exact ht)]
   rfl
end
/-- 'clear' on a row of n > 0 elements of several cells each -/
theorem run_clear_rows {P : Program} (w : World) (t e : TypeId) (z : Value) (zs : List Value) (ht : P.underlying t = some (.slice e)) (hv : ∀ w, (zeroValue e).run P w = .ok z w) (hz : z.cells = zs.toArray) (h0 : 0 < zs.length) (h1 : ∀ u ∈ zs, u.oneCell' = true) (b o n c : Nat) (hn : 0 < n)
 (hc : ∀ j, j < n * zs.length → (w.cell? ⟨b, o + j, none⟩).isSome = true) (hf : ∀ j, j < n * zs.length → w.frozen? ⟨b, o + j, none⟩ = false) :
 ∃ vs, ∀ ty, (Builtin.clear_ #[t] ty #[.slice (some ⟨b, o, none⟩) n c]).run P w = .ok (.tuple #[]) (w.setCells b o vs) := by
 refine ⟨(Builtin.zeroCells z.cells n).toList, fun ty => ?_⟩
 have hlen : (Builtin.zeroCells z.cells n).toList.length = n * zs.length := by rw [hz]; simp [Builtin.zeroCells]
 have hst := Go.run_storeCells_cells (P := P) b o (Builtin.zeroCells z.cells n).toList 0 w (by intro j hj; rw [hlen] at hj; rw [Nat.add_zero]; exact hc j hj) (by intro j hj; rw [hlen] at hj; rw [Nat.add_zero]; exact hf j hj) (by
  intro v hv'
  rw [hz] at hv'
  simp [Builtin.zeroCells] at hv'
  obtain ⟨i, hi, rfl⟩ := hv'
  have hlt : i % zs.length < zs.length := Nat.mod_lt _ h0
  rw [List.getElem?_eq_getElem hlt]
  exact h1 _ (List.getElem_mem hlt))
 simp only [Nat.add_zero] at hst
 obtain ⟨m, rfl⟩ : ∃ m, n = m + 1 := ⟨n - 1, by omega⟩
 simp [Builtin.clear_, run_underlying ht, hv, hst]
end Go.Proofs.YtdmdohjdmnmabaaGreat
namespace Go.Proofs.YtdmdohjdmnmabaaGreat
open Go.RowKit
set_option linter.unusedVariables false
set_option linter.unusedSimpArgs false

theorem Tryz.zeroWt (w : World) : (zeroValue 84).run Tryz.prog w = .ok (.agg #[.int .i64 0, .int .i64 0, .int .i64 0, .int .i64 0, .bool false, .int .i64 0, .int .i64 0]) w := by kernel_rfl
theorem Blk.cellsWt {w : World} {g : Nat} {t : TypeId} {b0 b1 b2 b3 b4 b5 b6 : Value} (h : Blk w g t #[b0, b1, b2, b3, b4, b5, b6]) : w.cell? ⟨g, 0, none⟩ = some b0 ∧ w.cell? ⟨g, 1, none⟩ = some b1 ∧ w.cell? ⟨g, 2, none⟩ = some b2 ∧ w.cell? ⟨g, 3, none⟩ = some b3 ∧ w.cell? ⟨g, 4, none⟩ = some b4 ∧ w.cell? ⟨g, 5, none⟩ = some b5 ∧ w.cell? ⟨g, 6, none⟩ = some b6 := by
 refine ⟨?_, ?_, ?_, ?_, ?_, ?_, ?_⟩ <;> (rw [h.cell]; rfl)
theorem storeWt (w : World) (g i : Nat) (a0 a1 a2 a3 a4 a5 a6 : Value) : (((((((w.setCell ⟨g, i, none⟩ a0).setCell ⟨g, i + 1, none⟩ a1).setCell ⟨g, i + 2, none⟩ a2).setCell ⟨g, i + 3, none⟩ a3).setCell ⟨g, i + 4, none⟩ a4).setCell ⟨g, i + 5, none⟩ a5).setCell ⟨g, i + 6, none⟩ a6) = w.setCells g i [a0, a1, a2, a3, a4, a5, a6] := rfl
set_option maxRecDepth 100000 in
set_option maxHeartbeats 3200000 in
theorem IndexWt_c (base : Nat) (Iv : World → Prop) (pr : WtM → Bool) (p0 : Value) (p1 : Value) (p2 : Value) (HI : ∀ (w1 w2 : World), Iv w1 → Only (base ≤ ·) w1 w2 → Iv w2) (l : List WtM) (HP : ∀ (w' : World) (x : WtM), x ∈ l → Iv w' → Calls Tryz.prog 59 #[.agg #[.int .i64 x.id, .int .i64 x.op, .int .i64 x.from_, .int .i64 x.until_, .bool x.done, .int .i64 x.at_, .int .i64 x.what], p0, p1, p2] w' fun e w2 => e = .returned (.bool (pr x)) ∧ Below w'.heap.size w' w2) (A : Option Addr) (c : Nat) (w : World) (hb0 : base ≤ w.heap.size) (hi : Iv w) (hr : Rd w NoBlk A (flat encWt l)) (hn0 : l.length ≤ maxLen) :
 Calls Tryz.prog 93 #[.slice A l.length c, .func (.func 59) #[] #[p0, p1, p2]] w fun e w' => e = .returned (.int .i64 (idxG pr l)) ∧ Below w.heap.size w w' := by
 have hn : l.length ≤ 9223372036854775807 := hn0
 have Hc := hide (fun (w' : World) (hb : Below w.heap.size w w') (k : Nat) (x : WtM) (hx : l[k]? = some x) => flat_cells encWt_len (hr.below hb) k x hx (by omega))
 have HPr := hide (fun (w' : World) (hb : Below w.heap.size w w') (x : WtM) (hxm : x ∈ l) => HP w' x hxm (HI w w' hi (Only.of_below hb _)))
 obtain ⟨n, hnl⟩ : ∃ n, n = l.length := ⟨_, rfl⟩
 rw [← hnl] at hn ⊢
 have Hn := hide hnl
 clear hr hn0 hnl HP HI hi hb0
 go_enter Tryz.func93, Tryz.ntmps93
 go_wp2_with fail
 go_loopw [8] (fun i wr => ∃ k : Nat, k ≤ n ∧ i = .int .i64 k ∧ Hid (∀ y ∈ l.take k, pr y = false) ∧ Hid (Below w.heap.size w wr)) (fun i _ => n - (intOf i).toNat)
 case atStart => exact ⟨0, Nat.zero_le _, rfl, hide (by simp), hide (Below.refl _ _)⟩
 case round =>
  obtain ⟨k, hk, rfl, hnone, hbel⟩ := hrel
  by_cases hlt2 : k < n
  ·obtain ⟨x, hx⟩ : ∃ x, l[k]? = some x := ⟨l[k]'(by rw [← Hn.out]; exact hlt2), List.getElem?_eq_getElem _⟩
   obtain ⟨b2, o, rfl, _, hb2, hc⟩ := Hc.out wr hbel.out k x hx
   have hpred := HPr.out wr hbel.out x (List.mem_of_getElem? hx)
   have g0 : wr.cell? ⟨b2, o + k * 7, none⟩ = some (.int .i64 x.id) := hc 0 (by omega)
   have g1 : wr.cell? ⟨b2, o + k * 7 + 1, none⟩ = some (.int .i64 x.op) := hc 1 (by omega)
   have g2 : wr.cell? ⟨b2, o + k * 7 + 2, none⟩ = some (.int .i64 x.from_) := hc 2 (by omega)
   have g3 : wr.cell? ⟨b2, o + k * 7 + 3, none⟩ = some (.int .i64 x.until_) := hc 3 (by omega)
   have g4 : wr.cell? ⟨b2, o + k * 7 + 4, none⟩ = some (.bool x.done) := hc 4 (by omega)
   have g5 : wr.cell? ⟨b2, o + k * 7 + 5, none⟩ = some (.int .i64 x.at_) := hc 5 (by omega)
   have g6 : wr.cell? ⟨b2, o + k * 7 + 6, none⟩ = some (.int .i64 x.what) := hc 6 (by omega)
   have d1 : decide ((k : Int) < (n : Int)) = true := by simp; exact hlt2
   have d2 : decide (k < n) = true := by simp; exact hlt2
   have j1 : (0 : Int) ≤ (k : Int) := by omega
   have j2 : (k : Int) < (n : Int) := by omega
   have w1 : IntKind.i64.wrap ((k : Int) + 1) = (k : Int) + 1 := IntWalk.i64_in _ (by omega)
   clear hc
   cases ho : pr x with
   | true =>
    rw [ho] at hpred
    have HP := hide hpred
    have HI := hide (idxG_at pr l k x hx hnone.out ho)
    clear hpred ho hx
    go_wp2_with (go_at_call 59; refine HP.out.mono ?_; rintro e w2 ⟨rfl, hb9⟩)
    go_ret
    exact ⟨ret_int HI.out.symm, hbel.out.trans (hb9.mono hbel.out.size)⟩
   | false =>
    rw [ho] at hpred
    have HP := hide hpred
    have HIn : Hid (∀ y ∈ l.take (k + 1), pr y = false) := by
     intro y hy
     rw [List.take_add_one, hx] at hy
     rcases List.mem_append.1 hy with hy | hy
     ·exact hnone.out y hy
     ·simp only [Option.toList_some, List.mem_singleton] at hy
      subst hy
      exact ho
    clear hpred ho hnone hx
    go_wp2_with (go_at_call 59; refine HP.out.mono ?_; rintro e w2 ⟨rfl, hb9⟩)
    have HB2 := hide (hbel.out.trans (hb9.mono hbel.out.size))
    clear hb9
    go_roundw
    case rel => exact ⟨k + 1, by omega, by go_num, HIn, HB2⟩
    case measure => simp [intOf]; omega
  ·have hd : decide ((k : Int) < n) = false := by simp; omega
   have hd2 : decide (k < n) = false := by simp; omega
   have HI := hide (idxG_none pr l (fun y hy => hnone.out y (by rw [List.take_of_length_le (by rw [← Hn.out]; omega)]; exact hy)))
   go_wp2_with fail
   go_ret
   exact ⟨ret_int HI.out.symm, hbel.out⟩
set_option maxRecDepth 100000 in
set_option maxHeartbeats 12800000 in
theorem DeleteWt_c (base : Nat) (Iv : World → Prop) (pr : WtM → Bool) (p0 : Value) (p1 : Value) (p2 : Value) (HI : ∀ (w1 w2 : World), Iv w1 → Only (base ≤ ·) w1 w2 → Iv w2) (l : List WtM) (HP : ∀ (w' : World) (x : WtM), x ∈ l → Iv w' → Calls Tryz.prog 59 #[.agg #[.int .i64 x.id, .int .i64 x.op, .int .i64 x.from_, .int .i64 x.until_, .bool x.done, .int .i64 x.at_, .int .i64 x.what], p0, p1, p2] w' fun e w2 => e = .returned (.bool (pr x)) ∧ Below w'.heap.size w' w2) (v : Value) (w : World) (hb0 : base ≤ w.heap.size) (hi : Iv w) (how : w.ownsRow base 84 7 v l.length (flat encWt l)) (hn0 : l.length ≤ 100000000) :
 Calls Tryz.prog 61 #[v, .func (.func 59) #[] #[p0, p1, p2]] w fun e w' => (∃ A1 c1, e = .returned (.slice A1 (keepL pr l).length c1) ∧ Rd w' NoBlk A1 (flat encWt (keepL pr l))) ∧ Only (base ≤ ·) w w' := by
 obtain ⟨VA, vc, rfl, hvc⟩ := own_cap how
 have hr := Rd.of_own (M := NoBlk) how (fun _ h => h.elim)
 have HIdx := hide (IndexWt_c base Iv pr p0 p1 p2 HI l HP VA vc w hb0 hi hr (by simp only [maxLen]; omega))
 have HPr := hide (fun (w' : World) (hb : Only (base ≤ ·) w w') (x : WtM) (hxm : x ∈ l) => HP w' x hxm (HI w w' hi hb))
 have HOw := hide how
 have HR := hide hr
 rcases idxG_or pr l with ⟨hm, hno⟩ | ⟨k0, hk0, hm, hno⟩
 ·rw [hm] at HIdx
  have HK := hide (keep_none hno)
  clear hm hno how hr HP HI hi HPr hb0
  go_enter Tryz.func61, Tryz.ntmps61
  go_wp2_with fail
  refine HIdx.out.mono ?_
  rintro e w1 ⟨rfl, hb1⟩
  have HB1 := hide hb1
  clear hb1
  go_wp2_with fail
  go_ret
  rw [HK.out]
  exact ⟨⟨VA, vc, rfl, HR.out.below HB1.out⟩, Only.of_below HB1.out _⟩
 ·have hlp : 0 < l.length := by omega
  obtain ⟨g, c, hveq, hgb, hnc, hcm, hdel⟩ := del_of_own how hlp rfl encWt_len
  injection hveq with h1 _ h2
  subst h1 h2
  obtain ⟨c, hcc⟩ : ∃ c, c = vc := ⟨_, rfl⟩
  subst hcc
  have hD0 := hdel k0 (k0 + 1) (by omega) (by omega)
  have hK0 : keepL pr (l.take k0) = l.take k0 := keep_none hno
  obtain ⟨x0, hx0⟩ : ∃ x, l[k0]? = some x := ⟨l[k0], List.getElem?_eq_getElem _⟩
  have hp0 : pr x0 = true := by
   have h1 := hm
   unfold idxG at h1
   split at h1
   ·rename_i ha
    have hf : l.findIdx pr < l.length := List.findIdx_lt_length.2 (by simpa using List.any_eq_true.1 ha)
    have : l.findIdx pr = k0 := by omega
    subst this
    have := List.findIdx_getElem (p := pr) (xs := l) (w := hf)
    rw [List.getElem?_eq_getElem hf] at hx0
    injection hx0 with hx0
    rw [← hx0]; exact this
   ·omega
  have hKs := keep_succ pr l k0 x0 hx0
  rw [hK0, if_pos hp0, List.append_nil] at hKs
  rw [hm] at HIdx
  have HKp := hide (show ∀ (q : Nat) (x : WtM), l[q]? = some x → keepL pr (l.take (q + 1)) = keepL pr (l.take q) ++ (if pr x = true then [] else [x]) from fun q x hx => keep_succ pr l q x hx)
  have HLast := hide (show keepL pr (l.take l.length) = keepL pr l by rw [List.take_length])
  have HKl := hide (show (l.take k0).length = k0 by rw [List.length_take]; omega)
  rw [← hKs] at hD0 HKl
  obtain ⟨n, hnl⟩ : ∃ n, n = l.length := ⟨_, rfl⟩
  rw [← hnl] at hD0 HIdx HLast hk0 hlp hn0 hnc ⊢
  have Hn := hide hnl
  have HD0 := hide hD0
  have HGL := hide (show ∀ q, q < n → ∃ x, l[q]? = some x from fun q hq => ⟨l[q]'(by rw [← hnl]; exact hq), List.getElem?_eq_getElem _⟩)
  have hcm' : c ≤ 9223372036854775807 := hcm
  have w0 : IntKind.i64.wrap ((k0 : Int) + 1) = ((k0 + 1 : Nat) : Int) := by rw [IntWalk.i64_in _ (by omega)]; omega
  clear hm hno how hr HP HI hi hdel hK0 hx0 hp0 hKs hD0 hnl HOw HR hcm hb0
  have e0 : ((k0 : Int) == -1) = false := by simp
  go_enter Tryz.func61, Tryz.ntmps61
  go_wp2_with fail
  refine HIdx.out.mono ?_
  rintro e w1 ⟨rfl, hb1⟩
  have HD1 := hide (HD0.out.only (Only.of_below hb1 NoBlk) (fun h => h))
  have HO1 := hide (Only.of_below hb1 (base ≤ ·))
  clear hb1
  go_wp2_with fail
  go_loopw [5, 6] (fun i j wr => ∃ k q : Nat, k < q ∧ q ≤ n ∧ i = .int .i64 k ∧ j = .int .i64 q ∧ Hid ((keepL pr (l.take q)).length = k) ∧ Hid (DelAt encWt 7 wr g n k q (keepL pr (l.take q)) l) ∧ Hid (Only (base ≤ ·) w wr)) (fun _ j _ => n - (intOf j).toNat)
  case atStart => exact ⟨k0, k0 + 1, by omega, by omega, rfl, rfl, HKl, HD1, HO1⟩
  case round =>
   clear HD0 HD1 HO1 HKl w0 hk0 e0
   obtain ⟨k, q, hkq, hqn, rfl, rfl, HL, HD, HO⟩ := hrel
   by_cases hlt : q < n
   ·obtain ⟨x, hx⟩ := HGL.out q hlt
    have hcell := fun j hj => HD.out.at_ encWt_len x hx hlt j hj
    have hpred := HPr.out (wr.alloc (.cells #[.int .i64 x.id, .int .i64 x.op, .int .i64 x.from_, .int .i64 x.until_, .bool x.done, .int .i64 x.at_, .int .i64 x.what] 84)) (HO.out.alloc _) x (List.mem_of_getElem? hx)
    have HKq := hide (HKp.out q x hx)
    have g0 : wr.cell? ⟨g, q * 7, none⟩ = some (.int .i64 x.id) := hcell 0 (by omega)
    have g1 : wr.cell? ⟨g, q * 7 + 1, none⟩ = some (.int .i64 x.op) := hcell 1 (by omega)
    have g2 : wr.cell? ⟨g, q * 7 + 2, none⟩ = some (.int .i64 x.from_) := hcell 2 (by omega)
    have g3 : wr.cell? ⟨g, q * 7 + 3, none⟩ = some (.int .i64 x.until_) := hcell 3 (by omega)
    have g4 : wr.cell? ⟨g, q * 7 + 4, none⟩ = some (.bool x.done) := hcell 4 (by omega)
    have g5 : wr.cell? ⟨g, q * 7 + 5, none⟩ = some (.int .i64 x.at_) := hcell 5 (by omega)
    have g6 : wr.cell? ⟨g, q * 7 + 6, none⟩ = some (.int .i64 x.what) := hcell 6 (by omega)
    obtain ⟨W2, hW2⟩ : ∃ W2, W2 = wr.alloc (.cells #[.int .i64 x.id, .int .i64 x.op, .int .i64 x.from_, .int .i64 x.until_, .bool x.done, .int .i64 x.at_, .int .i64 x.what] 84) := ⟨_, rfl⟩
    have HD2 := hide (show DelAt encWt 7 W2 g n k q (keepL pr (l.take q)) l by rw [hW2]; exact HD.out.only ((Only.refl NoBlk _).alloc _) (fun h => h))
    have HO2 := hide (show Only (base ≤ ·) w W2 by rw [hW2]; exact HO.out.alloc _)
    obtain ⟨xg, hxg⟩ : ∃ xg, xg = wr.heap.size := ⟨_, rfl⟩
    have HX2 := hide (show Blk W2 xg 84 #[.int .i64 x.id, .int .i64 x.op, .int .i64 x.from_, .int .i64 x.until_, .bool x.done, .int .i64 x.at_, .int .i64 x.what] by rw [hW2, hxg]; exact Blk.new _ _ _)
    have hxl : ¬ xg = g := by have := HD.out.lt; omega
    have hxl2 : ¬ g = xg := fun h => hxl h.symm
    rw [← hW2] at hpred
    have HW2 := hide hW2
    have HXg := hide hxg
    have d1 : decide ((q : Int) < (n : Int)) = true := by simp; exact hlt
    have d2 : decide (q < n) = true := by simp; exact hlt
    have j1 : (0 : Int) ≤ (q : Int) := by omega
    have j2 : (q : Int) < (n : Int) := by omega
    have w1 : IntKind.i64.wrap ((q : Int) + 1) = (q : Int) + 1 := IntWalk.i64_in _ (by omega)
    have w2' : IntKind.i64.wrap ((k : Int) + 1) = (k : Int) + 1 := IntWalk.i64_in _ (by omega)
    have i1 : (0 : Int) ≤ (k : Int) := by omega
    have i2 : (k : Int) < (n : Int) := by omega
    clear hcell hW2 hxg
    cases ho : pr x with
    | true =>
     rw [ho] at hpred HKq
     have HP := hide hpred
     have HK1 := hide (show keepL pr (l.take (q + 1)) = keepL pr (l.take q) by rw [HKq.out]; simp)
     clear hpred ho hx
     go_upto_region 8 with fail
     rw [← HW2.out, ← HXg.out]
     obtain ⟨y0, y1, y2, y3, y4, y5, y6⟩ := HX2.out.cellsWt
     clear g0 g1 g2 g3 g4 g5 g6
     go_wp2_with (go_at_call 59; refine HP.out.mono ?_; rintro e w3 ⟨rfl, hb3⟩)
     have HD3 := hide (show DelAt encWt 7 w3 g n k (q + 1) (keepL pr (l.take (q + 1))) l by rw [HK1.out]; exact (HD2.out.only (Only.of_below hb3 NoBlk) (fun h => h)).skip)
     have HO3 := hide (HO2.out.trans (Only.of_below hb3 (base ≤ ·)))
     have HL3 := hide (show (keepL pr (l.take (q + 1))).length = k by rw [HK1.out]; exact HL.out)
     clear hb3
     go_roundw
     case rel => exact ⟨k, q + 1, by omega, by omega, rfl, by go_num, HL3, HD3, HO3⟩
     case measure => simp [intOf]; omega
    | false =>
     rw [ho] at hpred HKq
     have HP := hide hpred
     have HK1 := hide (show keepL pr (l.take (q + 1)) = keepL pr (l.take q) ++ [x] by rw [HKq.out]; simp)
     have HXq := hide hx
     clear hpred ho hx
     go_upto_region 8 with fail
     rw [← HW2.out, ← HXg.out]
     obtain ⟨y0, y1, y2, y3, y4, y5, y6⟩ := HX2.out.cellsWt
     clear g0 g1 g2 g3 g4 g5 g6
     go_upto_region 9 with (go_at_call 59; refine HP.out.mono ?_; rintro e w3 ⟨rfl, hb3⟩)
     have HD3 := hide (HD2.out.only (Only.of_below hb3 NoBlk) (fun h => h))
     have HO3 := hide (HO2.out.trans (Only.of_below hb3 (base ≤ ·)))
     have HX3 := hide (HX2.out.below hb3)
     clear hb3 y0 y1 y2 y3 y4 y5 y6
     obtain ⟨y0, y1, y2, y3, y4, y5, y6⟩ := HX3.out.cellsWt
     obtain ⟨u0, c0⟩ := HD3.out.some_ (show k < n by omega) 0 (by omega)
     obtain ⟨u1, c1⟩ := HD3.out.some_ (show k < n by omega) 1 (by omega)
     obtain ⟨u2, c2⟩ := HD3.out.some_ (show k < n by omega) 2 (by omega)
     obtain ⟨u3, c3⟩ := HD3.out.some_ (show k < n by omega) 3 (by omega)
     obtain ⟨u4, c4⟩ := HD3.out.some_ (show k < n by omega) 4 (by omega)
     obtain ⟨u5, c5⟩ := HD3.out.some_ (show k < n by omega) 5 (by omega)
     obtain ⟨u6, c6⟩ := HD3.out.some_ (show k < n by omega) 6 (by omega)
     have f0 := HD3.out.fr (k * 7 + 0)
     have f1 := HD3.out.fr (k * 7 + 1)
     have f2 := HD3.out.fr (k * 7 + 2)
     have f3 := HD3.out.fr (k * 7 + 3)
     have f4 := HD3.out.fr (k * 7 + 4)
     have f5 := HD3.out.fr (k * 7 + 5)
     have f6 := HD3.out.fr (k * 7 + 6)
     simp only [Nat.add_zero] at c0 f0
     have HD4 := hide (HD3.out.store encWt_len HL.out x HXq.out hkq hlt)
     rw [← HK1.out] at HD4
     have HO4 := hide (HO3.out.trans ((only_setCells g (encWt x) (k * 7) w3).mono (fun i _ hi => by have : i = g := hi; show base ≤ i; omega)))
     have HL4 := hide (show (keepL pr (l.take (q + 1))).length = k + 1 by rw [HK1.out, List.length_append, HL.out]; rfl)
     go_wp2_with fail
     rw [storeWt]
     go_roundw
     case rel => exact ⟨k + 1, q + 1, by omega, by omega, by go_num, by go_num, HL4, HD4, HO4⟩
     case measure => simp [intOf]; omega
   ·obtain rfl : q = n := by omega
    have d1 : decide ((q : Int) < (q : Int)) = false := by simp
    have d2 : decide (q < q) = false := by simp
    have i1 : (0 : Int) ≤ (k : Int) := by omega
    have i2 : (k : Int) ≤ (q : Int) := by omega
    have i3 : (k : Int) ≤ (c : Int) := by omega
    have i4 : ¬ k = c := by omega
    have i5 : ¬ c = k := by omega
    obtain ⟨vs, hcl⟩ := run_clear_rows (P := Tryz.prog) wr 54 84 (.agg #[.int .i64 0, .int .i64 0, .int .i64 0, .int .i64 0, .bool false, .int .i64 0, .int .i64 0]) [.int .i64 0, .int .i64 0, .int .i64 0, .int .i64 0, .bool false, .int .i64 0, .int .i64 0] Tryz.underlying54 Tryz.zeroWt rfl (by simp) (by intro u hu; simp at hu; first | (rcases hu with rfl | rfl <;> rfl) | (subst hu; rfl) | (rcases hu with rfl | rfl | rfl | rfl | rfl | rfl | rfl <;> rfl)) g (k * 7) (q - k) (c - k) (by omega)
     (fun j hj => HD.out.so _ (by simp only [List.length_cons, List.length_nil] at hj; rw [Nat.sub_mul] at hj; omega)) (fun j hj => HD.out.fr _)
    have HRd := hide (HD.out.cleared encWt_len HL.out vs)
    rw [HLast.out] at HRd HL
    have HO5 := hide (HO.out.trans ((only_setCells g vs (k * 7) wr).mono (fun i _ hi => by have : i = g := hi; show base ≤ i; omega)))
    clear HD HO HKp HGL HPr HIdx
    go_wp2_with (simp only [hcl])
    trace_state
    go_ret
    exact ⟨⟨_, c, by rw [HL.out]; rfl, HRd.out⟩, HO5.out⟩
end Go.Proofs.YtdmdohjdmnmabaaGreat
