/- Parts of a chain of lemmas: Grace1, Grace2, Grace3, Grace4, Grace5, Grace6. Conditions: those of each theorem. -/
import Derived.Test.YtdmdohjdmnmabaaGreatQw23
namespace Go.Proofs.YtdmdohjdmnmabaaGreat
open Go.RowKit
set_option linter.unusedVariables false

def isK (kd : Int) (x : Ev) : Bool := decide (x.k = kd)
/-- the place of the first event of a kind -/
def idxK (kd : Int) (l : List Ev) : Int := if l.any (isK kd) = true then (l.findIdx (isK kd) : Int) else -1
theorem idxK_at (kd : Int) (l : List Ev) (k : Nat) (hk : k < l.length) (h : ∀ y ∈ l.take k, isK kd y = false) (hx : isK kd (evAt l k) = true) : idxK kd l = k := by
 have e : evAt l k = l[k] := by simp [evAt, List.getD, hk]
 rw [e] at hx
 unfold idxK
 have ha : l.any (isK kd) = true := List.any_eq_true.2 ⟨l[k], List.getElem_mem hk, hx⟩
 rw [if_pos ha]
 have : l.findIdx (isK kd) = k := by
  rw [List.findIdx_eq hk]
  refine ⟨hx, fun j hj => ?_⟩
  exact h _ (by rw [List.mem_take_iff_getElem]; exact ⟨j, by omega, rfl⟩)
 rw [this]
theorem idxK_none (kd : Int) (l : List Ev) (h : ∀ y ∈ l, isK kd y = false) : idxK kd l = -1 := by
 unfold idxK
 have ha : ¬ l.any (isK kd) = true := by
  rw [List.any_eq_true]
  rintro ⟨x, hx, ho⟩
  rw [h x hx] at ho
  cases ho
 rw [if_neg ha]
end Go.Proofs.YtdmdohjdmnmabaaGreat
namespace Go.Proofs.YtdmdohjdmnmabaaGreat
open Go.RowKit
set_option linter.unusedVariables false

theorem idxK_or (kd : Int) (l : List Ev) : (idxK kd l = -1 ∧ ∀ y ∈ l, isK kd y = false) ∨ ∃ k, k < l.length ∧ idxK kd l = k ∧ (evAt l k).k = kd := by
 by_cases h : ∀ y ∈ l, isK kd y = false
 ·exact Or.inl ⟨idxK_none kd l h, h⟩
 ·right
  have hk : l.findIdx (isK kd) < l.length := by
   rw [List.findIdx_lt_length]
   simp only [Classical.not_forall] at h
   obtain ⟨y, hy, ho⟩ := h
   exact ⟨y, hy, by simpa using ho⟩
  have e : evAt l (l.findIdx (isK kd)) = l[l.findIdx (isK kd)] := by simp [evAt, List.getD, hk]
  have hx : isK kd (evAt l (l.findIdx (isK kd))) = true := by rw [e]; exact List.findIdx_getElem
  have hp : ∀ y ∈ l.take (l.findIdx (isK kd)), isK kd y = false := by
   intro y hy
   rw [List.mem_take_iff_getElem] at hy
   obtain ⟨j, hj, rfl⟩ := hy
   have := List.not_of_lt_findIdx (p := isK kd) (xs := l) (i := j) (by omega)
   simpa using this
  exact ⟨_, hk, idxK_at kd l _ hk hp hx, by simpa [isK] using hx⟩
/-- when a drain begins -/
def beginT (l : List Ev) : Int := if 0 ≤ idxK 7 l then (evAt l (idxK 7 l).toNat).tick else 0
set_option maxRecDepth 100000 in
set_option maxHeartbeats 1600000 in
theorem refLast_c (M : Nat → Prop) (A : Option Addr) (c : Nat) (l : List Ev) (w : World) (hr : Rd w M A (flat encEv l)) (hn : l.length ≤ 100000) :
 Calls Tryz.prog 27 #[.slice A l.length c] w fun e w' => e = .returned (.int .i64 (clockOf 0 l)) ∧ Below w.heap.size w w' := by
 have Hc := hide (fun k hk => ev_cells hr k hk)
 obtain ⟨n, hnl⟩ : ∃ n, n = l.length := ⟨_, rfl⟩
 rw [← hnl] at hn ⊢
 have Hn := hide hnl
 clear hr hnl
 go_enter Tryz.func27, Tryz.ntmps27
 go_wp2_with fail
 go_loopw [3] (fun i wr => ∃ q : Nat, q ≤ n ∧ i = .int .i64 ((q : Int) - 1) ∧ Hid (clockOf 0 l = clockOf 0 (l.take q)) ∧ Below w.heap.size w wr) (fun i _ => (intOf i + 1).toNat)
 case atStart => exact ⟨n, Nat.le_refl _, rfl, hide (by rw [List.take_of_length_le (by rw [← Hn.out]; omega)]), Below.refl _ _⟩
 case round =>
  obtain ⟨q, hq, rfl, hcl, hbel⟩ := hrel
  cases q with
  | zero =>
   have HI := hide (show clockOf 0 l = 0 by rw [hcl.out]; rfl)
   go_wp2_with fail
   go_ret
   exact ⟨ret_int HI.out.symm, hbel⟩
  | succ q =>
   obtain ⟨b, o, rfl, _, hb, g0, g1, g2, g3, _⟩ := Hc.out q (by rw [← Hn.out]; omega)
   replace g0 := bkeepL hbel hb g0
   replace g3 := bkeepL hbel hb g3
   have HS := hide (clock_succ 0 l q (by rw [← Hn.out]; omega))
   have e1 : ((q + 1 : Nat) : Int) - 1 = q := by omega
   rw [e1]
   clear g1 g2
   cases ho : ((evAt l q).k == 1) with
   | true =>
    have hk := hide (show (evAt l q).k = 1 by simpa using ho)
    have HI := hide (show clockOf 0 l = (evAt l q).tick by rw [hcl.out, HS.out, if_pos hk.out])
    go_wp2_with fail
    go_ret
    exact ⟨ret_int HI.out.symm, hbel⟩
   | false =>
    have hk := hide (show ¬ (evAt l q).k = 1 by simpa using ho)
    have HI := hide (show clockOf 0 l = clockOf 0 (l.take q) by rw [hcl.out, HS.out, if_neg hk.out])
    go_wp2_with fail
    go_roundw
    case rel => exact ⟨q, by omega, by go_num, HI, hbel⟩
    case measure => simp [intOf]
set_option maxRecDepth 100000 in
set_option maxHeartbeats 1600000 in
theorem last_c (M : Nat → Prop) (A : Option Addr) (c : Nat) (l : List Ev) (w : World) (hr : Rd w M A (flat encEv l)) (hn : l.length ≤ 100000) :
 Calls Tryz.prog 58 #[.slice A l.length c] w fun e w' => e = .returned (.int .i64 (clockOf 0 l)) ∧ Below w.heap.size w w' := by
 have Hc := hide (fun k hk => ev_cells hr k hk)
 obtain ⟨n, hnl⟩ : ∃ n, n = l.length := ⟨_, rfl⟩
 rw [← hnl] at hn ⊢
 have Hn := hide hnl
 clear hr hnl
 go_enter Tryz.func58, Tryz.ntmps58
 go_wp2_with fail
 go_loopw [3, 8] (fun v i wr => ∃ k : Nat, k ≤ n ∧ i = .int .i64 k ∧ v = .int .i64 (clockOf 0 (l.take k)) ∧ Below w.heap.size w wr) (fun _ i _ => n - (intOf i).toNat)
 case atStart => exact ⟨0, Nat.zero_le _, rfl, rfl, Below.refl _ _⟩
 case round =>
  obtain ⟨k, hk, rfl, rfl, hbel⟩ := hrel
  by_cases hlt : k < n
  ·obtain ⟨b, o, rfl, _, hb, g0, g1, g2, g3, g4, g5, g6, g7, g8, g9, g10, g11⟩ := Hc.out k (by rw [← Hn.out]; exact hlt)
   replace g0 := bkeepL hbel hb g0
   replace g1 := bkeepL hbel hb g1
   replace g2 := bkeepL hbel hb g2
   replace g3 := bkeepL hbel hb g3
   replace g4 := bkeepL hbel hb g4
   replace g5 := bkeepL hbel hb g5
   replace g6 := bkeepL hbel hb g6
   replace g7 := bkeepL hbel hb g7
   replace g8 := bkeepL hbel hb g8
   replace g9 := bkeepL hbel hb g9
   replace g10 := bkeepL hbel hb g10
   replace g11 := bkeepL hbel hb g11
   have HS := hide (clock_succ 0 l k (by rw [← Hn.out]; exact hlt))
   obtain ⟨x, hx⟩ : ∃ x, x = evAt l k := ⟨_, rfl⟩
   rw [← hx] at g0 g1 g2 g3 g4 g5 g6 g7 g8 g9 g10 g11 HS
   clear hx
   cases q1 : (x.k == 1) with
   | true =>
    have HT := hide (show x.k = 1 by simpa using q1)
    go_wp2_with fail
    go_roundw
    case rel => exact ⟨k + 1, by omega, by go_num, by rw [HS.out, if_pos HT.out], hbel.alloc hbel.size _⟩
    case measure => simp [intOf]; omega
   | false =>
    have HT := hide (show ¬ x.k = 1 by simpa using q1)
    go_wp2_with fail
    go_roundw
    case rel => exact ⟨k + 1, by omega, by go_num, by rw [HS.out, if_neg HT.out], hbel.alloc hbel.size _⟩
    case measure => simp [intOf]; omega
  ·have hke : k = n := by omega
   subst hke
   have hd : decide ((k : Int) < k) = false := by simp
   have hd2 : decide (k < k) = false := by simp
   have HE := hide (show clockOf 0 (l.take k) = clockOf 0 l by rw [List.take_of_length_le (by rw [← Hn.out]; omega)])
   go_wp2_with fail
   go_ret
   exact ⟨ret_int HE.out, hbel⟩
set_option maxRecDepth 100000 in
theorem Last_c (M : Nat → Prop) (A : Option Addr) (c : Nat) (l : List Ev) (w : World) (hr : Rd w M A (flat encEv l)) (hn : l.length ≤ 100000) :
 Calls Tryz.prog 26 #[.slice A l.length c] w fun e w' => e = .returned (.int .i64 (clockOf 0 l)) ∧ Below w.heap.size w w' := by
 have HC := hide (last_c M A c l w hr hn)
 clear hr
 go_enter Tryz.func26, Tryz.ntmps26
 go_wp2_with fail
 refine HC.out.mono ?_
 rintro e w1 ⟨rfl, hb1⟩
 go_wp2_with fail
 go_ret
 exact ⟨rfl, hb1⟩
end Go.Proofs.YtdmdohjdmnmabaaGreat
namespace Go.Proofs.YtdmdohjdmnmabaaGreat
open Go.RowKit
set_option linter.unusedVariables false

def ownT (t : Int) : Int := if t < 0 then 0 else t
/-- two ticks together -/
def addT (t d : Int) : Int := if 9223372036854775807 ≤ ownT t + ownT d then 9223372036854775807 else ownT t + ownT d
theorem ownT_nn (t : Int) : 0 ≤ ownT t := by unfold ownT; split <;> omega
theorem ownT_le {t : Int} (h : t ≤ 9223372036854775807) : ownT t ≤ 9223372036854775807 := by unfold ownT; split <;> omega
theorem refOwn_c (t : Int) (w : World) : Calls Tryz.prog 91 #[.int .i64 t] w fun e w' => e = .returned (.int .i64 (ownT t)) ∧ w' = w := by
 unfold ownT
 by_cases h : t < 0
 ·have hd : decide (t < 0) = true := by simpa using h
  rw [if_pos h]
  go_enter Tryz.func91, Tryz.ntmps91
  go_wp2_with fail
  go_ret
  exact ⟨rfl, rfl⟩
 ·have hd : decide (t < 0) = false := by simpa using h
  rw [if_neg h]
  go_enter Tryz.func91, Tryz.ntmps91
  go_wp2_with fail
  go_ret
  exact ⟨rfl, rfl⟩
theorem own_c (t : Int) (w : World) : Calls Tryz.prog 134 #[.int .i64 t] w fun e w' => e = .returned (.int .i64 (ownT t)) ∧ w' = w := by
 unfold ownT
 by_cases h : t < 0
 ·have hd : decide (t < 0) = true := by simpa using h
  have hm : max t 0 = 0 := by omega
  rw [if_pos h]
  go_enter Tryz.func134, Tryz.ntmps134
  go_wp2_with fail
  go_ret
  exact ⟨rfl, rfl⟩
 ·have hd : decide (t < 0) = false := by simpa using h
  have hm : max t 0 = t := by omega
  rw [if_neg h]
  go_enter Tryz.func134, Tryz.ntmps134
  go_wp2_with fail
  go_ret
  exact ⟨rfl, rfl⟩
set_option maxHeartbeats 800000 in
theorem Add_c (t d : Int) (w : World) (ht : t ≤ 9223372036854775807) (hd : d ≤ 9223372036854775807) : Calls Tryz.prog 115 #[.int .i64 t, .int .i64 d] w fun e w' => e = .returned (.int .i64 (addT t d)) ∧ w' = w := by
 unfold addT
 have h1 := ownT_nn t; have h2 := ownT_nn d; have h3 := ownT_le ht; have h4 := ownT_le hd
 have C1 := hide (own_c t)
 have C2 := hide (own_c d)
 obtain ⟨a, ha⟩ : ∃ a, a = ownT t := ⟨_, rfl⟩
 obtain ⟨b, hb⟩ : ∃ b, b = ownT d := ⟨_, rfl⟩
 rw [← ha] at h1 h3 C1
 rw [← hb] at h2 h4 C2
 rw [← ha, ← hb]
 clear ha hb
 have hw : IntKind.i64.wrap (9223372036854775807 - b) = 9223372036854775807 - b := IntWalk.i64_in _ (by omega)
 by_cases h : 9223372036854775807 ≤ a + b
 ·rw [if_pos h]
  have hd1 : decide (9223372036854775807 - b ≤ a) = true := by simp; omega
  go_enter Tryz.func115, Tryz.ntmps115
  go_wp2_with fail
  refine (C1.out _).mono ?_
  rintro e w1 ⟨rfl, rfl⟩
  go_wp2_with fail
  refine (C2.out _).mono ?_
  rintro e w1 ⟨rfl, rfl⟩
  go_wp2_with fail
  go_ret
  exact ⟨rfl, rfl⟩
 ·rw [if_neg h]
  have hd1 : decide (9223372036854775807 - b ≤ a) = false := by simp; omega
  have hw2 : IntKind.i64.wrap (a + b) = a + b := IntWalk.i64_in _ (by omega)
  go_enter Tryz.func115, Tryz.ntmps115
  go_wp2_with fail
  refine (C1.out _).mono ?_
  rintro e w1 ⟨rfl, rfl⟩
  go_wp2_with fail
  refine (C2.out _).mono ?_
  rintro e w1 ⟨rfl, rfl⟩
  go_wp2_with fail
  go_ret
  exact ⟨rfl, rfl⟩
end Go.Proofs.YtdmdohjdmnmabaaGreat
namespace Go.Proofs.YtdmdohjdmnmabaaGreat
open Go.RowKit
set_option linter.unusedVariables false

set_option maxHeartbeats 800000 in
theorem refAdd_c (t d : Int) (w : World) (ht : t ≤ 9223372036854775807) (hd : d ≤ 9223372036854775807) : Calls Tryz.prog 57 #[.int .i64 t, .int .i64 d] w fun e w' => e = .returned (.int .i64 (addT t d)) ∧ w' = w := by
 unfold addT
 have h1 := ownT_nn t; have h2 := ownT_nn d; have h3 := ownT_le ht; have h4 := ownT_le hd
 have C1 := hide (refOwn_c t)
 have C2 := hide (refOwn_c d)
 obtain ⟨a, ha⟩ : ∃ a, a = ownT t := ⟨_, rfl⟩
 obtain ⟨b, hb⟩ : ∃ b, b = ownT d := ⟨_, rfl⟩
 rw [← ha] at h1 h3 C1
 rw [← hb] at h2 h4 C2
 rw [← ha, ← hb]
 clear ha hb
 have hu1 : IntKind.u64.wrap a = a := IntWalk.u64_in _ (by omega)
 have hu2 : IntKind.u64.wrap b = b := IntWalk.u64_in _ (by omega)
 have hu3 : IntKind.u64.wrap (a + b) = a + b := IntWalk.u64_in _ (by omega)
 by_cases h : 9223372036854775807 ≤ a + b
 ·rw [if_pos h]
  have hd1 : decide (9223372036854775807 ≤ a + b) = true := by simpa using h
  go_enter Tryz.func57, Tryz.ntmps57
  go_wp2_with fail
  refine (C1.out _).mono ?_
  rintro e w1 ⟨rfl, rfl⟩
  go_wp2_with fail
  refine (C2.out _).mono ?_
  rintro e w1 ⟨rfl, rfl⟩
  go_wp2_with fail
  go_ret
  exact ⟨rfl, rfl⟩
 ·rw [if_neg h]
  have hd1 : decide (9223372036854775807 ≤ a + b) = false := by simpa using h
  have hw2 : IntKind.i64.wrap (a + b) = a + b := IntWalk.i64_in _ (by omega)
  go_enter Tryz.func57, Tryz.ntmps57
  go_wp2_with fail
  refine (C1.out _).mono ?_
  rintro e w1 ⟨rfl, rfl⟩
  go_wp2_with fail
  refine (C2.out _).mono ?_
  rintro e w1 ⟨rfl, rfl⟩
  go_wp2_with fail
  go_ret
  exact ⟨rfl, rfl⟩
end Go.Proofs.YtdmdohjdmnmabaaGreat
namespace Go.Proofs.YtdmdohjdmnmabaaGreat
open Go.RowKit
set_option linter.unusedVariables false

/-- never more than Never -/
def satT (x : Int) : Int := if 9223372036854775807 ≤ x then 9223372036854775807 else x
theorem satT_le (x : Int) : satT x ≤ 9223372036854775807 := by unfold satT; split <;> omega
theorem satT_nn {x : Int} (h : 0 ≤ x) : 0 ≤ satT x := by unfold satT; split <;> omega
theorem addT_sat {a b : Int} (ha : 0 ≤ a) (hb : 0 ≤ b) : addT a b = satT (a + b) := by
 have h1 : ownT a = a := by unfold ownT; rw [if_neg (by omega)]
 have h2 : ownT b = b := by unfold ownT; rw [if_neg (by omega)]
 unfold addT satT
 rw [h1, h2]
theorem satT_mul {x y : Int} (m : Int) (hx : 0 ≤ x) (hy : 0 ≤ y) (hm : 0 ≤ m) : satT (satT x + satT y * m) = satT (x + y * m) := by
 have hym : 0 ≤ y * m := Int.mul_nonneg hy hm
 by_cases h0 : m = 0
 ·subst h0
  simp only [Int.mul_zero, Int.add_zero]
  unfold satT
  repeat' split
  all_goals omega
 ·have h1 : 1 ≤ m := by omega
  have hsy : 0 ≤ satT y * m := Int.mul_nonneg (satT_nn hy) hm
  by_cases hY : 9223372036854775807 ≤ y
  ·have e : satT y = 9223372036854775807 := by unfold satT; rw [if_pos hY]
   have l1 : 9223372036854775807 * 1 ≤ y * m := Int.mul_le_mul hY h1 (by omega) hy
   have l2 : (9223372036854775807 : Int) * 1 ≤ 9223372036854775807 * m := Int.mul_le_mul_of_nonneg_left h1 (by omega)
   have hsx := satT_nn hx
   rw [e]
   have a1 : satT (satT x + 9223372036854775807 * m) = 9223372036854775807 := by
    generalize 9223372036854775807 * m = z at l2
    unfold satT
    rw [if_pos]
    unfold satT at hsx
    omega
   have a2 : satT (x + y * m) = 9223372036854775807 := by
    generalize y * m = z at l1
    unfold satT
    rw [if_pos (by omega)]
   rw [a1, a2]
  ·have e : satT y = y := by unfold satT; rw [if_neg hY]
   rw [e]
   generalize y * m = z at hym
   unfold satT
   repeat' split
   all_goals omega
/-- one half more -/
theorem sat_step {out part : Int} (k : Nat) (ho : 0 ≤ out) (hp : 0 ≤ part) : satT ((if k % 2 = 1 then addT out part else out) + addT part part * ((k / 2 : Nat) : Int)) = satT (out + part * (k : Int)) := by
 rw [addT_sat hp hp]
 have hk : (k : Int) = 2 * ((k / 2 : Nat) : Int) + ((k % 2 : Nat) : Int) := by omega
 have hm : (0 : Int) ≤ ((k / 2 : Nat) : Int) := by omega
 by_cases h : k % 2 = 1
 ·rw [if_pos h, addT_sat ho hp, satT_mul _ (by omega) (by omega) hm, hk, h]
  congr 1
  rw [Int.mul_add, ← Int.mul_assoc]
  have : part * 2 = part + part := by omega
  rw [this]
  simp
  omega
 ·have h0 : k % 2 = 0 := by omega
  rw [if_neg h, hk, h0]
  have hso : satT (satT out + satT (part + part) * ((k / 2 : Nat) : Int)) = satT (out + satT (part + part) * ((k / 2 : Nat) : Int)) := by
   have h2 : 0 ≤ satT (part + part) * ((k / 2 : Nat) : Int) := Int.mul_nonneg (satT_nn (by omega)) hm
   generalize satT (part + part) * ((k / 2 : Nat) : Int) = z at h2 ⊢
   unfold satT
   repeat' split
   all_goals omega
  rw [← hso, satT_mul _ ho (by omega) hm]
  congr 1
  rw [Int.mul_add, ← Int.mul_assoc]
  have : part * 2 = part + part := by omega
  rw [this]
  simp
end Go.Proofs.YtdmdohjdmnmabaaGreat
namespace Go.Proofs.YtdmdohjdmnmabaaGreat
open Go.RowKit
set_option linter.unusedVariables false

set_option maxHeartbeats 1600000 in
theorem refTimes_c (t : Int) (n : Nat) (w : World) (ht : t ≤ 9223372036854775807) (hn : n ≤ 1000000000) : Calls Tryz.prog 94 #[.int .i64 t, .int .i64 n] w fun e w' => e = .returned (.int .i64 (satT (ownT t * n))) ∧ w' = w := by
 have C1 := hide (refOwn_c t)
 have h1 := ownT_nn t; have h3 := ownT_le ht
 obtain ⟨a, ha⟩ : ∃ a, a = ownT t := ⟨_, rfl⟩
 rw [← ha] at h1 h3 C1 ⊢
 clear ha
 go_enter Tryz.func94, Tryz.ntmps94
 go_wp2_with fail
 refine (C1.out _).mono ?_
 rintro e w1 ⟨rfl, rfl⟩
 go_wp2_with fail
 go_loopw [5, 6, 7] (fun o p i wr => ∃ (out part : Int) (k : Nat), o = .int .i64 out ∧ p = .int .i64 part ∧ i = .int .i64 k ∧ 0 ≤ out ∧ 0 ≤ part ∧ out ≤ 9223372036854775807 ∧ part ≤ 9223372036854775807 ∧ k ≤ 1000000000 ∧ Hid (satT (out + part * k) = satT (a * n)) ∧ wr = w1) (fun _ _ i _ => (intOf i).toNat)
 case atStart => exact ⟨0, a, n, rfl, rfl, rfl, Int.le_refl _, h1, by omega, h3, hn, hide (by rw [Int.zero_add]), rfl⟩
 case round =>
  obtain ⟨out, part, k, rfl, rfl, rfl, p1, p2, p3, p4, p5, hs, rfl⟩ := hrel
  by_cases hk : k = 0
  ·subst hk
   have HI := hide (show satT (a * n) = out by
    rw [← hs.out]
    simp only [Int.mul_zero, Int.natCast_zero, Int.add_zero]
    unfold satT
    split <;> omega)
   go_wp2_with fail
   go_ret
   exact ⟨ret_int HI.out.symm, rfl⟩
  ·have hd : decide ((0 : Int) < (k : Int)) = true := by simp; omega
   have CA := hide (refAdd_c out part)
   have CP := hide (refAdd_c part part)
   have HS := hide (sat_step k p1 p2)
   have a1 : 0 ≤ addT out part := by rw [addT_sat p1 p2]; exact satT_nn (by omega)
   have a2 : 0 ≤ addT part part := by rw [addT_sat p2 p2]; exact satT_nn (by omega)
   have a3 : addT out part ≤ 9223372036854775807 := by rw [addT_sat p1 p2]; exact satT_le _
   have a4 : addT part part ≤ 9223372036854775807 := by rw [addT_sat p2 p2]; exact satT_le _
   have q2 : Int.tdiv (k : Int) 2 = ((k / 2 : Nat) : Int) := by rw [Int.tdiv_eq_ediv_of_nonneg (by omega)]; omega
   cases ho : decide (k % 2 = 1) with
   | true =>
    have ho1 : k % 2 = 1 := by simpa using ho
    have q1 : Int.tmod (k : Int) 2 = 1 := by rw [Int.tmod_eq_emod_of_nonneg (by omega)]; omega
    have q3 : (k : Int) % 2 = 1 := by omega
    rw [if_pos ho1] at HS
    go_wp2_with fail
    refine (CA.out _ p3 p4).mono ?_
    rintro e w2 ⟨rfl, rfl⟩
    go_wp2_with fail
    refine (CP.out _ p4 p4).mono ?_
    rintro e w2 ⟨rfl, rfl⟩
    go_wp2_with fail
    go_roundw
    case rel => exact ⟨_, _, k / 2, rfl, rfl, by go_num, a1, a2, a3, a4, by omega, hide (by rw [HS.out, hs.out]), trivial⟩
    case measure => simp [intOf]; omega
   | false =>
    have ho1 : ¬ k % 2 = 1 := by simpa using ho
    have q1 : Int.tmod (k : Int) 2 = 0 := by rw [Int.tmod_eq_emod_of_nonneg (by omega)]; omega
    have q3 : (k : Int) % 2 = 0 := by omega
    rw [if_neg ho1] at HS
    go_wp2_with fail
    refine (CP.out _ p4 p4).mono ?_
    rintro e w2 ⟨rfl, rfl⟩
    go_wp2_with fail
    go_roundw
    case rel => exact ⟨_, _, k / 2, rfl, rfl, by go_num, p1, a2, p3, a4, by omega, hide (by rw [HS.out, hs.out]), trivial⟩
    case measure => simp [intOf]; omega
end Go.Proofs.YtdmdohjdmnmabaaGreat
