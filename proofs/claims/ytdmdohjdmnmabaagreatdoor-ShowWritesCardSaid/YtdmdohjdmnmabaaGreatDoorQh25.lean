/- Parts of a chain of lemmas: Del, Ids31, Prg3. Conditions: those of each theorem. -/
import Derived.Test.YtdmdohjdmnmabaaGreatDoorQh13
import Derived.Test.YtdmdohjdmnmabaaGreatDoorQh04
import Derived.Laws.IdiomCopy
import Derived.Test.YtdmdohjdmnmabaaGreatDoorQh09
import Derived.Test.YtdmdohjdmnmabaaGreatDoorQh03
import Derived.Shelf.Slices.In.SortNone
import Derived.Test.YtdmdohjdmnmabaaGreatDoorQh22
namespace Go.Proofs.YtdmdohjdmnmabaaGreatDoor
open Go.RowKit
set_option linter.unusedVariables false
set_option linter.unusedSimpArgs false

section
variable {α : Type}
/-- the place of the first one of which p holds -/
def idxG (p : α → Bool) (l : List α) : Int := if l.any p = true then (l.findIdx p : Int) else -1
theorem idxG_at (p : α → Bool) (l : List α) (k : Nat) (x : α) (hx : l[k]? = some x) (h : ∀ y ∈ l.take k, p y = false) (hp : p x = true) : idxG p l = k := by
 obtain ⟨hk, e⟩ := List.getElem?_eq_some_iff.1 hx
 unfold idxG
 have ha : l.any p = true := List.any_eq_true.2 ⟨x, List.mem_of_getElem? hx, hp⟩
 rw [if_pos ha]
 have : l.findIdx p = k := by
  rw [List.findIdx_eq hk]
  refine ⟨by rw [e]; exact hp, fun j hj => ?_⟩
  exact h _ (by rw [List.mem_take_iff_getElem]; exact ⟨j, by omega, rfl⟩)
 rw [this]
theorem idxG_none (p : α → Bool) (l : List α) (h : ∀ y ∈ l, p y = false) : idxG p l = -1 := by
 unfold idxG
 rw [if_neg]
 rw [List.any_eq_true]
 rintro ⟨x, hx, ho⟩
 rw [h x hx] at ho
 cases ho
theorem idxG_or (p : α → Bool) (l : List α) : (idxG p l = -1 ∧ ∀ y ∈ l, p y = false) ∨ ∃ k, k < l.length ∧ idxG p l = k ∧ ∀ y ∈ l.take k, p y = false := by
 by_cases ha : l.any p = true
 ·right
  have hlt : l.findIdx p < l.length := List.findIdx_lt_length.2 (by simpa using List.any_eq_true.1 ha)
  refine ⟨l.findIdx p, hlt, by unfold idxG; rw [if_pos ha], fun y hy => ?_⟩
  obtain ⟨j, hj, rfl⟩ := List.mem_take_iff_getElem.1 hy
  have := List.not_of_lt_findIdx (p := p) (xs := l) (i := j) (by omega)
  simpa using this
 ·left
  have h : ∀ y ∈ l, p y = false := by
   intro y hy
   cases hp : p y with
   | false => rfl
   | true => exact absurd (List.any_eq_true.2 ⟨y, hy, hp⟩) ha
  exact ⟨idxG_none p l h, h⟩
def keepL (p : α → Bool) (l : List α) : List α := l.filter (fun x => !p x)
theorem keep_none {p : α → Bool} {l : List α} (h : ∀ y ∈ l, p y = false) : keepL p l = l := by
 unfold keepL
 rw [List.filter_eq_self]
 intro y hy
 rw [h y hy]; rfl
theorem keep_succ (p : α → Bool) (l : List α) (k : Nat) (x : α) (hx : l[k]? = some x) : keepL p (l.take (k + 1)) = keepL p (l.take k) ++ (if p x = true then [] else [x]) := by
 have e : l.take (k + 1) = l.take k ++ [x] := by rw [List.take_add_one, hx]; rfl
 rw [e]
 unfold keepL
 rw [List.filter_append]
 cases hp : p x <;> simp [hp]
theorem keep_le (p : α → Bool) (l : List α) : (keepL p l).length ≤ l.length := List.length_filter_le _ _
end
theorem frozen_of_block {w w' : World} {g t : Nat} (h : w'.heap[g]? = w.heap[g]?) : w'.frozen? ⟨g, t, none⟩ = w.frozen? ⟨g, t, none⟩ := by
 simp only [World.frozen?, h]
theorem only_setCells (g : Nat) : ∀ (vs : List Value) (o : Nat) (w : World), Only (· = g) w (w.setCells g o vs)
 | [], _, _ => Only.refl _ _
 | v :: r, o, w => ((Only.refl (· = g) w).setCell (Or.inl rfl) v).trans (only_setCells g r (o + 1) _)
theorem frozen_setCells (g t : Nat) : ∀ (vs : List Value) (o : Nat) (w : World), (w.setCells g o vs).frozen? ⟨g, t, none⟩ = w.frozen? ⟨g, t, none⟩
 | [], _, _ => rfl
 | v :: r, o, w => by
  rw [World.setCells, frozen_setCells g t r (o + 1)]
  simp [World.frozen?, World.setCell, Array.getElem?_modify]
  cases w.heap[g]? with
  | none => rfl
  | some ob => cases ob <;> rfl
theorem cell_out {w : World} {g o t : Nat} {vs : List Value} (h : t < o ∨ o + vs.length ≤ t) : (w.setCells g o vs).cell? ⟨g, t, none⟩ = w.cell? ⟨g, t, none⟩ := World.cell?_setCells_out g vs o w ⟨g, t, none⟩ (fun _ _ => h)
/-- a row under way: the first k kept ones K, from q on as it was (L) -/
structure DelAt {α : Type} (enc : α → List Value) (nc : Nat) (w : World) (g n k q : Nat) (K L : List α) : Prop where
 lo : ∀ t, t < k * nc → w.cell? ⟨g, t, none⟩ = (flat enc K)[t]?
 hi : ∀ t, q * nc ≤ t → t < n * nc → w.cell? ⟨g, t, none⟩ = (flat enc L)[t]?
 so : ∀ t, t < n * nc → (w.cell? ⟨g, t, none⟩).isSome = true
 fr : ∀ t, w.frozen? ⟨g, t, none⟩ = false
 lt : g < w.heap.size
section
variable {α : Type} {enc : α → List Value} {nc : Nat} {w w' : World} {g n k q : Nat} {K L : List α}
theorem DelAt.only {S : Nat → Prop} (h : DelAt enc nc w g n k q K L) (j : Only S w w') (hs : ¬ S g) : DelAt enc nc w' g n k q K L := by
 have hc : ∀ t, w'.cell? ⟨g, t, none⟩ = w.cell? ⟨g, t, none⟩ := fun t => j.cell (p := ⟨g, t, none⟩) h.lt hs
 exact ⟨fun t ht => (hc t).trans (h.lo t ht), fun t h1 h2 => (hc t).trans (h.hi t h1 h2), fun t ht => by rw [hc]; exact h.so t ht, fun t => (frozen_of_block (j.block g h.lt hs)).trans (h.fr t), Nat.lt_of_lt_of_le h.lt j.size⟩
theorem DelAt.skip (h : DelAt enc nc w g n k q K L) : DelAt enc nc w g n k (q + 1) K L := ⟨h.lo, fun t h1 h2 => h.hi t (by rw [Nat.add_mul] at h1; omega) h2, h.so, h.fr, h.lt⟩
theorem DelAt.at_ (h : DelAt enc nc w g n k q K L) (henc : ∀ a, (enc a).length = nc) (x : α) (hx : L[q]? = some x) (hqn : q < n) (j : Nat) (hj : j < nc) : w.cell? ⟨g, q * nc + j, none⟩ = (enc x)[j]? := by
 have h1 : q * nc + nc ≤ n * nc := by have := Nat.mul_le_mul_right nc (show q + 1 ≤ n by omega); rw [Nat.add_mul] at this; omega
 rw [h.hi _ (by omega) (by omega), flat_at enc nc henc L q j x hx hj]
theorem DelAt.some_ (h : DelAt enc nc w g n k q K L) (hkn : k < n) (j : Nat) (hj : j < nc) : ∃ u, w.cell? ⟨g, k * nc + j, none⟩ = some u := by
 have h1 : k * nc + nc ≤ n * nc := by have := Nat.mul_le_mul_right nc (show k + 1 ≤ n by omega); rw [Nat.add_mul] at this; omega
 exact Option.isSome_iff_exists.1 (h.so (k * nc + j) (by omega))
theorem DelAt.store (h : DelAt enc nc w g n k q K L) (henc : ∀ a, (enc a).length = nc) (hK : K.length = k) (x : α) (hx : L[q]? = some x) (hkq : k < q) (hqn : q < n) : DelAt enc nc (w.setCells g (k * nc) (enc x)) g n (k + 1) (q + 1) (K ++ [x]) L := by
 have h1 : k * nc + nc ≤ q * nc := by have := Nat.mul_le_mul_right nc (show k + 1 ≤ q by omega); rw [Nat.add_mul] at this; omega
 have h2 : q * nc + nc ≤ n * nc := by have := Nat.mul_le_mul_right nc (show q + 1 ≤ n by omega); rw [Nat.add_mul] at this; omega
 have hsome : ∀ j, j < (enc x).length → (w.cell? ⟨g, k * nc + j, none⟩).isSome = true := fun j hj => h.so _ (by rw [henc] at hj; omega)
 have hin : ∀ j (hj : j < (enc x).length), (w.setCells g (k * nc) (enc x)).cell? ⟨g, k * nc + j, none⟩ = some ((enc x)[j]) := World.cell?_setCells_in g (enc x) (k * nc) w hsome
 have hfk : (flat enc K).length = k * nc := by rw [flat_len enc nc henc, hK]
 refine ⟨fun t ht => ?_, fun t h3 h4 => ?_, fun t ht => ?_, fun t => by rw [frozen_setCells]; exact h.fr t, by have := (only_setCells g (enc x) (k * nc) w).size; have := h.lt; omega⟩
 ·have e : flat enc (K ++ [x]) = flat enc K ++ enc x := by simp [flat]
  rw [e]
  by_cases htk : t < k * nc
  ·rw [cell_out (Or.inl htk), h.lo t htk, List.getElem?_append_left (by omega)]
  ·have : t < k * nc + nc := by rw [Nat.add_mul] at ht; omega
   obtain ⟨j, rfl⟩ : ∃ j, t = k * nc + j := ⟨t - k * nc, by omega⟩
   rw [hin j (by rw [henc]; omega), List.getElem?_append_right (by omega), hfk, show k * nc + j - k * nc = j by omega, List.getElem?_eq_getElem]
 ·rw [cell_out (Or.inr (by rw [henc]; rw [Nat.add_mul] at h3; omega))]
  exact h.hi t (by rw [Nat.add_mul] at h3; omega) h4
 ·by_cases hj : k * nc ≤ t ∧ t < k * nc + nc
  ·obtain ⟨j, rfl⟩ : ∃ j, t = k * nc + j := ⟨t - k * nc, by omega⟩
   rw [hin j (by rw [henc]; omega)]; rfl
  ·rw [cell_out (by rw [henc]; omega)]
   exact h.so t ht
theorem DelAt.cleared (h : DelAt enc nc w g n k q K L) (henc : ∀ a, (enc a).length = nc) (hK : K.length = k) (vs : List Value) : Rd (w.setCells g (k * nc) vs) NoBlk (some ⟨g, 0, none⟩) (flat enc K) := by
 refine Or.inr ⟨g, 0, rfl, fun h => h, by have := (only_setCells g vs (k * nc) w).size; have := h.lt; omega, fun j hj => ?_⟩
 rw [flat_len enc nc henc, hK] at hj
 rw [Nat.zero_add, cell_out (Or.inl hj)]
 exact h.lo j hj
theorem del_of_own {base n : Nat} {e : TypeId} {v : Value} (h : w.ownsRow base e nc v n (flat enc L)) (hn : 0 < n) (hL : L.length = n) (henc : ∀ a, (enc a).length = nc) :
 ∃ g c, v = .slice (some ⟨g, 0, none⟩) n c ∧ base ≤ g ∧ n ≤ c ∧ c ≤ maxLen ∧ ∀ k q, k ≤ q → k ≤ n → DelAt enc nc w g n k q (L.take k) L := by
 obtain ⟨hl, h2⟩ := h
 rcases h2 with ⟨hv, h0⟩ | ⟨g, cap, cur, hv, hb, hh, hnc, hcm, hsz, htk⟩
 ·omega
 ·have hbk : Blk w g e cur := hh
  have hall : ∀ t, t < n * nc → w.cell? ⟨g, t, none⟩ = (flat enc L)[t]? := by
   intro t ht
   rw [hbk.cell, ← htk, List.getElem?_take, if_pos ht]
   simp
  refine ⟨g, cap, hv, hb, hnc, hcm, fun k q hkq hkn => ⟨fun t ht => ?_, fun t _ ht => hall t ht, fun t ht => ?_, fun t => hbk.frozen t, hbk.lt⟩⟩
  ·have hkn2 : k * nc ≤ n * nc := Nat.mul_le_mul_right nc hkn
   rw [hall t (by omega)]
   have e : flat enc L = flat enc (L.take k) ++ flat enc (L.drop k) := by rw [← flat_append, List.take_append_drop]
   rw [e, List.getElem?_append_left (by rw [flat_len enc nc henc, List.length_take]; rw [Nat.min_eq_left (by omega)]; exact ht)]
  ·rw [hall t ht, List.getElem?_eq_getElem (by rw [flat_len enc nc henc, hL]; exact ht)]
   rfl
end
/-- 'clear' on a row of n > 0 elements of several cells each -/
theorem run_clear_rows {P : Program} (w : World) (t e : TypeId) (z : Value) (zs : List Value) (ht : P.underlying t = some (.slice e)) (hv : ∀ w, (zeroValue e).run P w = .ok z w) (hz : z.cells = zs.toArray) (h0 : 0 < zs.length) (h1 : ∀ u ∈ zs, u.oneCell' = true) (b o n c : Nat) (hn : 0 < n)
 (hc : ∀ j, j < n * zs.length → (w.cell? ⟨b, o + j, none⟩).isSome = true) (hf : ∀ j, j < n * zs.length → w.frozen? ⟨b, o + j, none⟩ = false) :
 ∃ vs, ∀ ty, (Builtin.clear_ #[t] ty #[.slice (some ⟨b, o, none⟩) n c]).run P w = .ok (.tuple #[]) (w.setCells b o vs) := by
 refine ⟨(Builtin.zeroCells z.cells n).toList, fun ty => ?_⟩
 have hlen : (Builtin.zeroCells z.cells n).toList.length = n * zs.length := by rw [hz]; simp [Builtin.zeroCells]
 have hst := Go.run_storeCells_cells (P := P) b o (Builtin.zeroCells z.cells n).toList 0 w (by intro j hj; rw [hlen] at hj; rw [Nat.add_zero]; exact hc j hj) (by intro j hj; rw [hlen] at hj; rw [Nat.add_zero]; exact hf j hj) (by
  intro v hv'
  rw [hz] at hv'
  simp [Builtin.zeroCells] at hv'
  obtain ⟨i, hi, rfl⟩ := hv'
  have hlt : i % zs.length < zs.length := Nat.mod_lt _ h0
  rw [List.getElem?_eq_getElem hlt]
  exact h1 _ (List.getElem_mem hlt))
 simp only [Nat.add_zero] at hst
 obtain ⟨m, rfl⟩ : ∃ m, n = m + 1 := ⟨n - 1, by omega⟩
 simp [Builtin.clear_, run_underlying ht, hv, hst]
end Go.Proofs.YtdmdohjdmnmabaaGreatDoor
namespace Go.Proofs.YtdmdohjdmnmabaaGreatDoor
open Go.RowKit Go.Sort
set_option linter.unusedVariables false

abbrev encI (t : Int) : List Value := [.int .i64 t]
theorem Tryz.infoI3 : (Tryz.prog.info? 3).map (fun i => (i.zero, i.size, i.bytes)) = some (some (.int .i64 0), 1, 8) := by kernel_rfl
theorem flat_encI (zs : List Int) : flat encI zs = zs.map (Value.int .i64) := by
 induction zs with
 | nil => rfl
 | cons a l ih => rw [flat_cons, ih]; rfl
theorem compact_nil : Lib.compact (([] : List Int).mergeSort fun x y => decide (x ≤ y)) = [] := by
 rw [List.mergeSort_nil]; rfl
theorem compact_le (S : List Int) : (Lib.compact S).length ≤ S.length := by
 unfold Lib.compact Lib.compactUpTo
 rw [List.length_map]
 exact Nat.le_trans (List.length_filter_le _ _) (by simp)
end Go.Proofs.YtdmdohjdmnmabaaGreatDoor
namespace Go.Proofs.YtdmdohjdmnmabaaGreatDoor
open Go.RowKit
set_option linter.unusedVariables false
set_option linter.unusedSimpArgs false

theorem onlyBox {w w1 w2 : World} (h : Only NoBlk w w1) (k : Below w1.heap.size w1 w2) : Only NoBlk w w2 := h.trans (Only.of_below k _)
set_option maxRecDepth 100000 in
set_option maxHeartbeats 3200000 in
theorem armed_c (s : ByteArray) (d j : Int) (PA : Option Addr) (pn pc : Nat) (a : ArmM) (w : World) (hs : a.pat.size ≤ 9223372036854775807) :
 Calls Tryz.prog 143 #[.agg #[.string s, .int .i64 d, .int .i64 j, .slice PA pn pc], .agg #[.string a.pat, .int .i64 a.to]] w fun e w' => e = .returned (.int .i64 (armE pn a)) ∧ Only NoBlk w w' := by
 obtain ⟨pt, g⟩ := a
 simp only at hs ⊢
 obtain ⟨a0, b0, hck⟩ : ∃ a0 b0, checkS pt.data.toList = (a0, b0) := ⟨_, _, rfl⟩
 have HC := hide (fun (w' : World) => Check_c pt w' hs)
 rw [hck] at HC
 have HA := hide (show armE pn ⟨pt, g⟩ = if 64 < pt.size then 4 else if ((b0 : Nat) : Int) ≠ 0 then ((b0 : Nat) : Int) else if comesB pn g = true then 0 else 13 by unfold armE patE; rw [hck])
 have HCm := hide (fun (w' : World) => comes_c s d j PA pn pc g w')
 have hB : Below w.heap.size w ((w.alloc (.cells #[.string s, .int .i64 d, .int .i64 j, .slice PA pn pc] 24)).alloc (.cells #[.string pt, .int .i64 g] 65)) := (below_alloc _ _).alloc (by simp) _
 have HO := hide (Only.of_below hB NoBlk)
 have HP := hide (show Blk ((w.alloc (.cells #[.string s, .int .i64 d, .int .i64 j, .slice PA pn pc] 24)).alloc (.cells #[.string pt, .int .i64 g] 65)) w.heap.size 24 #[.string s, .int .i64 d, .int .i64 j, .slice PA pn pc] from (Blk.new w 24 _).alloc _)
 have HM := hide (show Blk ((w.alloc (.cells #[.string s, .int .i64 d, .int .i64 j, .slice PA pn pc] 24)).alloc (.cells #[.string pt, .int .i64 g] 65)) (w.heap.size + 1) 65 #[.string pt, .int .i64 g] from Blk.new' (by simp))
 clear hB hck
 by_cases h1 : 64 < pt.size
 ·have d1 : decide ((pt.size : Int) > 64) = true := by simp; omega
  have d2 : decide (64 < pt.size) = true := by simp; exact h1
  have HQ := hide (show armE pn ⟨pt, g⟩ = 4 by rw [HA.out, if_pos h1])
  clear h1
  go_enter Tryz.func143, Tryz.ntmps143
  go_wp2_with fail
  go_ret
  exact ⟨by rw [HQ.out]; rfl, HO.out⟩
 ·have d1 : decide ((pt.size : Int) > 64) = false := by simp; omega
  have d2 : decide (64 < pt.size) = false := by simp; omega
  replace HA := hide (HA.out.trans (if_neg h1))
  clear h1
  by_cases hb : b0 = 0
  ·subst hb
   replace HA := hide (HA.out.trans (if_neg (by simp)))
   go_enter Tryz.func143, Tryz.ntmps143
   go_wp2_with fail
   refine (HC.out _).mono ?_
   rintro e w2 ⟨rfl, ho2⟩
   have HP2 := hide (HP.out.only ho2 (fun h => h))
   have HM2 := hide (HM.out.only ho2 (fun h => h))
   have HO2 := hide (HO.out.trans ho2)
   clear ho2 HP HM HO
   obtain ⟨⟨g0, g1, g2, g3⟩, _⟩ := HP2.out.four
   have m0 : w2.cell? ⟨w.heap.size + 1, 0, none⟩ = some (.string pt) := by rw [HM2.out.cell]; rfl
   have m1 : w2.cell? ⟨w.heap.size + 1, 1, none⟩ = some (.int .i64 g) := by rw [HM2.out.cell]; rfl
   cases hc : comesB pn g with
   | true =>
    rw [hc] at HCm
    have HQ := hide (show armE pn ⟨pt, g⟩ = 0 by rw [HA.out, hc]; rfl)
    clear hc
    go_wp2_with fail
    refine (HCm.out _).mono ?_
    rintro e w3 ⟨rfl, hb3⟩
    go_wp2_with fail
    go_ret
    exact ⟨by rw [HQ.out]; rfl, onlyBox HO2.out hb3⟩
   | false =>
    rw [hc] at HCm
    have HQ := hide (show armE pn ⟨pt, g⟩ = 13 by rw [HA.out, hc]; rfl)
    clear hc
    go_wp2_with fail
    refine (HCm.out _).mono ?_
    rintro e w3 ⟨rfl, hb3⟩
    go_wp2_with fail
    go_ret
    exact ⟨by rw [HQ.out]; rfl, onlyBox HO2.out hb3⟩
  ·have hbe : ((b0 : Int) != 0) = true := by simp only [bne_iff_ne, ne_eq]; omega
   have HQ := hide (show armE pn ⟨pt, g⟩ = b0 by rw [HA.out, if_pos (by omega)])
   clear hb
   go_enter Tryz.func143, Tryz.ntmps143
   go_wp2_with fail
   refine (HC.out _).mono ?_
   rintro e w2 ⟨rfl, ho2⟩
   have HO2 := hide (HO.out.trans ho2)
   clear ho2
   go_wp2_with fail
   go_ret
   exact ⟨by rw [HQ.out]; rfl, HO2.out⟩
end Go.Proofs.YtdmdohjdmnmabaaGreatDoor
