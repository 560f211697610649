/- Parts of a chain of lemmas: GraceA, ShelfG, GraceB. Conditions: those of each theorem. -/
import Derived.Test.YtdmdohjdmnmabaaGreatScr
import Derived.Ground.NamesProg
import Derived.Shelf.Bits.Mul64
namespace Go.Proofs.YtdmdohjdmnmabaaGreat
open Go.RowKit
set_option linter.unusedVariables false

def isK (kd : Int) (x : Ev) : Bool := decide (x.k = kd)
/-- the place of the first event of a kind -/
def idxK (kd : Int) (l : List Ev) : Int := if l.any (isK kd) = true then (l.findIdx (isK kd) : Int) else -1
theorem idxK_at (kd : Int) (l : List Ev) (k : Nat) (hk : k < l.length) (h : ∀ y ∈ l.take k, isK kd y = false) (hx : isK kd (evAt l k) = true) : idxK kd l = k := by
  have e : evAt l k = l[k] := by simp [evAt, List.getD, hk]
  rw [e] at hx
  unfold idxK
  have ha : l.any (isK kd) = true := List.any_eq_true.2 ⟨l[k], List.getElem_mem hk, hx⟩
  rw [if_pos ha]
  have : l.findIdx (isK kd) = k := by
    rw [List.findIdx_eq hk]
    refine ⟨hx, fun j hj => ?_⟩
    exact h _ (by rw [List.mem_take_iff_getElem]; exact ⟨j, by omega, rfl⟩)
  rw [this]
theorem idxK_none (kd : Int) (l : List Ev) (h : ∀ y ∈ l, isK kd y = false) : idxK kd l = -1 := by
  unfold idxK
  have ha : ¬ l.any (isK kd) = true := by
    rw [List.any_eq_true]
    rintro ⟨x, hx, ho⟩
    rw [h x hx] at ho
    cases ho
  rw [if_neg ha]
end Go.Proofs.YtdmdohjdmnmabaaGreat
namespace Go.Proofs.YtdmdohjdmnmabaaGreat
open Go.RowKit
set_option linter.unusedVariables false

theorem idxK_or (kd : Int) (l : List Ev) : (idxK kd l = -1 ∧ ∀ y ∈ l, isK kd y = false) ∨ ∃ k, k < l.length ∧ idxK kd l = k ∧ (evAt l k).k = kd := by
  by_cases h : ∀ y ∈ l, isK kd y = false
  · exact Or.inl ⟨idxK_none kd l h, h⟩
  · right
    have hk : l.findIdx (isK kd) < l.length := by
      rw [List.findIdx_lt_length]
      simp only [Classical.not_forall] at h
      obtain ⟨y, hy, ho⟩ := h
      exact ⟨y, hy, by simpa using ho⟩
    have e : evAt l (l.findIdx (isK kd)) = l[l.findIdx (isK kd)] := by simp [evAt, List.getD, hk]
    have hx : isK kd (evAt l (l.findIdx (isK kd))) = true := by rw [e]; exact List.findIdx_getElem
    have hp : ∀ y ∈ l.take (l.findIdx (isK kd)), isK kd y = false := by
      intro y hy
      rw [List.mem_take_iff_getElem] at hy
      obtain ⟨j, hj, rfl⟩ := hy
      have := List.not_of_lt_findIdx (p := isK kd) (xs := l) (i := j) (by omega)
      simpa using this
    exact ⟨_, hk, idxK_at kd l _ hk hp hx, by simpa [isK] using hx⟩
/-- when a drain begins -/
def beginT (l : List Ev) : Int := if 0 ≤ idxK 7 l then (evAt l (idxK 7 l).toNat).tick else 0
set_option maxRecDepth 100000 in
set_option maxHeartbeats 1600000 in
theorem refLast_c (M : Nat → Prop) (A : Option Addr) (c : Nat) (l : List Ev) (w : World) (hr : Rd w M A (flat encEv l)) (hn : l.length ≤ 100000) :
    Calls Tryz.prog 27 #[.slice A l.length c] w fun e w' => e = .returned (.int .i64 (clockOf 0 l)) ∧ Below w.heap.size w w' := by
  have Hc := hide (fun k hk => ev_cells hr k hk)
  obtain ⟨n, hnl⟩ : ∃ n, n = l.length := ⟨_, rfl⟩
  rw [← hnl] at hn ⊢
  have Hn := hide hnl
  clear hr hnl
  go_enter Tryz.func27, Tryz.ntmps27
  go_wp2_with fail
  go_loopw [3] (fun i wr => ∃ q : Nat, q ≤ n ∧ i = .int .i64 ((q : Int) - 1) ∧ Hid (clockOf 0 l = clockOf 0 (l.take q)) ∧ Below w.heap.size w wr) (fun i _ => (intOf i + 1).toNat)
  case atStart => exact ⟨n, Nat.le_refl _, rfl, hide (by rw [List.take_of_length_le (by rw [← Hn.out]; omega)]), Below.refl _ _⟩
  case round =>
    obtain ⟨q, hq, rfl, hcl, hbel⟩ := hrel
    cases q with
    | zero =>
      have HI := hide (show clockOf 0 l = 0 by rw [hcl.out]; rfl)
      go_wp2_with fail
      go_ret
      exact ⟨ret_int HI.out.symm, hbel⟩
    | succ q =>
      obtain ⟨b, o, rfl, _, hb, g0, g1, g2, g3, _⟩ := Hc.out q (by rw [← Hn.out]; omega)
      replace g0 := bkeepL hbel hb g0
      replace g3 := bkeepL hbel hb g3
      have HS := hide (clock_succ 0 l q (by rw [← Hn.out]; omega))
      have e1 : ((q + 1 : Nat) : Int) - 1 = q := by omega
      rw [e1]
      clear g1 g2
      cases ho : ((evAt l q).k == 1) with
      | true =>
        have hk := hide (show (evAt l q).k = 1 by simpa using ho)
        have HI := hide (show clockOf 0 l = (evAt l q).tick by rw [hcl.out, HS.out, if_pos hk.out])
        go_wp2_with fail
        go_ret
        exact ⟨ret_int HI.out.symm, hbel⟩
      | false =>
        have hk := hide (show ¬ (evAt l q).k = 1 by simpa using ho)
        have HI := hide (show clockOf 0 l = clockOf 0 (l.take q) by rw [hcl.out, HS.out, if_neg hk.out])
        go_wp2_with fail
        go_roundw
        case rel => exact ⟨q, by omega, by go_num, HI, hbel⟩
        case measure => simp [intOf]
set_option maxRecDepth 100000 in
set_option maxHeartbeats 1600000 in
theorem last_c (M : Nat → Prop) (A : Option Addr) (c : Nat) (l : List Ev) (w : World) (hr : Rd w M A (flat encEv l)) (hn : l.length ≤ 100000) :
    Calls Tryz.prog 58 #[.slice A l.length c] w fun e w' => e = .returned (.int .i64 (clockOf 0 l)) ∧ Below w.heap.size w w' := by
  have Hc := hide (fun k hk => ev_cells hr k hk)
  obtain ⟨n, hnl⟩ : ∃ n, n = l.length := ⟨_, rfl⟩
  rw [← hnl] at hn ⊢
  have Hn := hide hnl
  clear hr hnl
  go_enter Tryz.func58, Tryz.ntmps58
  go_wp2_with fail
  go_loopw [3, 8] (fun v i wr => ∃ k : Nat, k ≤ n ∧ i = .int .i64 k ∧ v = .int .i64 (clockOf 0 (l.take k)) ∧ Below w.heap.size w wr) (fun _ i _ => n - (intOf i).toNat)
  case atStart => exact ⟨0, Nat.zero_le _, rfl, rfl, Below.refl _ _⟩
  case round =>
    obtain ⟨k, hk, rfl, rfl, hbel⟩ := hrel
    by_cases hlt : k < n
    · obtain ⟨b, o, rfl, _, hb, g0, g1, g2, g3, g4, g5, g6, g7, g8, g9, g10, g11⟩ := Hc.out k (by rw [← Hn.out]; exact hlt)
      replace g0 := bkeepL hbel hb g0
      replace g1 := bkeepL hbel hb g1
      replace g2 := bkeepL hbel hb g2
      replace g3 := bkeepL hbel hb g3
      replace g4 := bkeepL hbel hb g4
      replace g5 := bkeepL hbel hb g5
      replace g6 := bkeepL hbel hb g6
      replace g7 := bkeepL hbel hb g7
      replace g8 := bkeepL hbel hb g8
      replace g9 := bkeepL hbel hb g9
      replace g10 := bkeepL hbel hb g10
      replace g11 := bkeepL hbel hb g11
      have HS := hide (clock_succ 0 l k (by rw [← Hn.out]; exact hlt))
      obtain ⟨x, hx⟩ : ∃ x, x = evAt l k := ⟨_, rfl⟩
      rw [← hx] at g0 g1 g2 g3 g4 g5 g6 g7 g8 g9 g10 g11 HS
      clear hx
      cases q1 : (x.k == 1) with
      | true =>
        have HT := hide (show x.k = 1 by simpa using q1)
        go_wp2_with fail
        go_roundw
        case rel => exact ⟨k + 1, by omega, by go_num, by rw [HS.out, if_pos HT.out], hbel.alloc hbel.size _⟩
        case measure => simp [intOf]; omega
      | false =>
        have HT := hide (show ¬ x.k = 1 by simpa using q1)
        go_wp2_with fail
        go_roundw
        case rel => exact ⟨k + 1, by omega, by go_num, by rw [HS.out, if_neg HT.out], hbel.alloc hbel.size _⟩
        case measure => simp [intOf]; omega
    · have hke : k = n := by omega
      subst hke
      have hd : decide ((k : Int) < k) = false := by simp
      have hd2 : decide (k < k) = false := by simp
      have HE := hide (show clockOf 0 (l.take k) = clockOf 0 l by rw [List.take_of_length_le (by rw [← Hn.out]; omega)])
      go_wp2_with fail
      go_ret
      exact ⟨ret_int HE.out, hbel⟩
set_option maxRecDepth 100000 in
theorem Last_c (M : Nat → Prop) (A : Option Addr) (c : Nat) (l : List Ev) (w : World) (hr : Rd w M A (flat encEv l)) (hn : l.length ≤ 100000) :
    Calls Tryz.prog 26 #[.slice A l.length c] w fun e w' => e = .returned (.int .i64 (clockOf 0 l)) ∧ Below w.heap.size w w' := by
  have HC := hide (last_c M A c l w hr hn)
  clear hr
  go_enter Tryz.func26, Tryz.ntmps26
  go_wp2_with fail
  refine HC.out.mono ?_
  rintro e w1 ⟨rfl, hb1⟩
  go_wp2_with fail
  go_ret
  exact ⟨rfl, hb1⟩
end Go.Proofs.YtdmdohjdmnmabaaGreat
namespace Go.Proofs.YtdmdohjdmnmabaaGreat
open Go.RowKit
set_option linter.unusedVariables false

def ownT (t : Int) : Int := if t < 0 then 0 else t
/-- two ticks together -/
def addT (t d : Int) : Int := if 9223372036854775807 ≤ ownT t + ownT d then 9223372036854775807 else ownT t + ownT d
theorem ownT_nn (t : Int) : 0 ≤ ownT t := by unfold ownT; split <;> omega
theorem ownT_le {t : Int} (h : t ≤ 9223372036854775807) : ownT t ≤ 9223372036854775807 := by unfold ownT; split <;> omega
theorem refOwn_c (t : Int) (w : World) : Calls Tryz.prog 91 #[.int .i64 t] w fun e w' => e = .returned (.int .i64 (ownT t)) ∧ w' = w := by
  unfold ownT
  by_cases h : t < 0
  · have hd : decide (t < 0) = true := by simpa using h
    rw [if_pos h]
    go_enter Tryz.func91, Tryz.ntmps91
    go_wp2_with fail
    go_ret
    exact ⟨rfl, rfl⟩
  · have hd : decide (t < 0) = false := by simpa using h
    rw [if_neg h]
    go_enter Tryz.func91, Tryz.ntmps91
    go_wp2_with fail
    go_ret
    exact ⟨rfl, rfl⟩
theorem own_c (t : Int) (w : World) : Calls Tryz.prog 134 #[.int .i64 t] w fun e w' => e = .returned (.int .i64 (ownT t)) ∧ w' = w := by
  unfold ownT
  by_cases h : t < 0
  · have hd : decide (t < 0) = true := by simpa using h
    have hm : max t 0 = 0 := by omega
    rw [if_pos h]
    go_enter Tryz.func134, Tryz.ntmps134
    go_wp2_with fail
    go_ret
    exact ⟨rfl, rfl⟩
  · have hd : decide (t < 0) = false := by simpa using h
    have hm : max t 0 = t := by omega
    rw [if_neg h]
    go_enter Tryz.func134, Tryz.ntmps134
    go_wp2_with fail
    go_ret
    exact ⟨rfl, rfl⟩
set_option maxHeartbeats 800000 in
theorem Add_c (t d : Int) (w : World) (ht : t ≤ 9223372036854775807) (hd : d ≤ 9223372036854775807) : Calls Tryz.prog 115 #[.int .i64 t, .int .i64 d] w fun e w' => e = .returned (.int .i64 (addT t d)) ∧ w' = w := by
  unfold addT
  have h1 := ownT_nn t; have h2 := ownT_nn d; have h3 := ownT_le ht; have h4 := ownT_le hd
  have C1 := hide (own_c t)
  have C2 := hide (own_c d)
  obtain ⟨a, ha⟩ : ∃ a, a = ownT t := ⟨_, rfl⟩
  obtain ⟨b, hb⟩ : ∃ b, b = ownT d := ⟨_, rfl⟩
  rw [← ha] at h1 h3 C1
  rw [← hb] at h2 h4 C2
  rw [← ha, ← hb]
  clear ha hb
  have hw : IntKind.i64.wrap (9223372036854775807 - b) = 9223372036854775807 - b := IntWalk.i64_in _ (by omega)
  by_cases h : 9223372036854775807 ≤ a + b
  · rw [if_pos h]
    have hd1 : decide (9223372036854775807 - b ≤ a) = true := by simp; omega
    go_enter Tryz.func115, Tryz.ntmps115
    go_wp2_with fail
    refine (C1.out _).mono ?_
    rintro e w1 ⟨rfl, rfl⟩
    go_wp2_with fail
    refine (C2.out _).mono ?_
    rintro e w1 ⟨rfl, rfl⟩
    go_wp2_with fail
    go_ret
    exact ⟨rfl, rfl⟩
  · rw [if_neg h]
    have hd1 : decide (9223372036854775807 - b ≤ a) = false := by simp; omega
    have hw2 : IntKind.i64.wrap (a + b) = a + b := IntWalk.i64_in _ (by omega)
    go_enter Tryz.func115, Tryz.ntmps115
    go_wp2_with fail
    refine (C1.out _).mono ?_
    rintro e w1 ⟨rfl, rfl⟩
    go_wp2_with fail
    refine (C2.out _).mono ?_
    rintro e w1 ⟨rfl, rfl⟩
    go_wp2_with fail
    go_ret
    exact ⟨rfl, rfl⟩
end Go.Proofs.YtdmdohjdmnmabaaGreat
namespace Go.Proofs.YtdmdohjdmnmabaaGreat
open Go.RowKit
set_option linter.unusedVariables false

set_option maxHeartbeats 800000 in
theorem refAdd_c (t d : Int) (w : World) (ht : t ≤ 9223372036854775807) (hd : d ≤ 9223372036854775807) : Calls Tryz.prog 57 #[.int .i64 t, .int .i64 d] w fun e w' => e = .returned (.int .i64 (addT t d)) ∧ w' = w := by
  unfold addT
  have h1 := ownT_nn t; have h2 := ownT_nn d; have h3 := ownT_le ht; have h4 := ownT_le hd
  have C1 := hide (refOwn_c t)
  have C2 := hide (refOwn_c d)
  obtain ⟨a, ha⟩ : ∃ a, a = ownT t := ⟨_, rfl⟩
  obtain ⟨b, hb⟩ : ∃ b, b = ownT d := ⟨_, rfl⟩
  rw [← ha] at h1 h3 C1
  rw [← hb] at h2 h4 C2
  rw [← ha, ← hb]
  clear ha hb
  have hu1 : IntKind.u64.wrap a = a := IntWalk.u64_in _ (by omega)
  have hu2 : IntKind.u64.wrap b = b := IntWalk.u64_in _ (by omega)
  have hu3 : IntKind.u64.wrap (a + b) = a + b := IntWalk.u64_in _ (by omega)
  by_cases h : 9223372036854775807 ≤ a + b
  · rw [if_pos h]
    have hd1 : decide (9223372036854775807 ≤ a + b) = true := by simpa using h
    go_enter Tryz.func57, Tryz.ntmps57
    go_wp2_with fail
    refine (C1.out _).mono ?_
    rintro e w1 ⟨rfl, rfl⟩
    go_wp2_with fail
    refine (C2.out _).mono ?_
    rintro e w1 ⟨rfl, rfl⟩
    go_wp2_with fail
    go_ret
    exact ⟨rfl, rfl⟩
  · rw [if_neg h]
    have hd1 : decide (9223372036854775807 ≤ a + b) = false := by simpa using h
    have hw2 : IntKind.i64.wrap (a + b) = a + b := IntWalk.i64_in _ (by omega)
    go_enter Tryz.func57, Tryz.ntmps57
    go_wp2_with fail
    refine (C1.out _).mono ?_
    rintro e w1 ⟨rfl, rfl⟩
    go_wp2_with fail
    refine (C2.out _).mono ?_
    rintro e w1 ⟨rfl, rfl⟩
    go_wp2_with fail
    go_ret
    exact ⟨rfl, rfl⟩
end Go.Proofs.YtdmdohjdmnmabaaGreat
namespace Go.Proofs.YtdmdohjdmnmabaaGreat
open Go.RowKit
set_option linter.unusedVariables false

/-- never more than Never -/
def satT (x : Int) : Int := if 9223372036854775807 ≤ x then 9223372036854775807 else x
theorem satT_le (x : Int) : satT x ≤ 9223372036854775807 := by unfold satT; split <;> omega
theorem satT_nn {x : Int} (h : 0 ≤ x) : 0 ≤ satT x := by unfold satT; split <;> omega
theorem addT_sat {a b : Int} (ha : 0 ≤ a) (hb : 0 ≤ b) : addT a b = satT (a + b) := by
  have h1 : ownT a = a := by unfold ownT; rw [if_neg (by omega)]
  have h2 : ownT b = b := by unfold ownT; rw [if_neg (by omega)]
  unfold addT satT
  rw [h1, h2]
theorem satT_mul {x y : Int} (m : Int) (hx : 0 ≤ x) (hy : 0 ≤ y) (hm : 0 ≤ m) : satT (satT x + satT y * m) = satT (x + y * m) := by
  have hym : 0 ≤ y * m := Int.mul_nonneg hy hm
  by_cases h0 : m = 0
  · subst h0
    simp only [Int.mul_zero, Int.add_zero]
    unfold satT
    repeat' split
    all_goals omega
  · have h1 : 1 ≤ m := by omega
    have hsy : 0 ≤ satT y * m := Int.mul_nonneg (satT_nn hy) hm
    by_cases hY : 9223372036854775807 ≤ y
    · have e : satT y = 9223372036854775807 := by unfold satT; rw [if_pos hY]
      have l1 : 9223372036854775807 * 1 ≤ y * m := Int.mul_le_mul hY h1 (by omega) hy
      have l2 : (9223372036854775807 : Int) * 1 ≤ 9223372036854775807 * m := Int.mul_le_mul_of_nonneg_left h1 (by omega)
      have hsx := satT_nn hx
      rw [e]
      have a1 : satT (satT x + 9223372036854775807 * m) = 9223372036854775807 := by
        generalize 9223372036854775807 * m = z at l2
        unfold satT
        rw [if_pos]
        unfold satT at hsx
        omega
      have a2 : satT (x + y * m) = 9223372036854775807 := by
        generalize y * m = z at l1
        unfold satT
        rw [if_pos (by omega)]
      rw [a1, a2]
    · have e : satT y = y := by unfold satT; rw [if_neg hY]
      rw [e]
      generalize y * m = z at hym
      unfold satT
      repeat' split
      all_goals omega
/-- one half more -/
theorem sat_step {out part : Int} (k : Nat) (ho : 0 ≤ out) (hp : 0 ≤ part) : satT ((if k % 2 = 1 then addT out part else out) + addT part part * ((k / 2 : Nat) : Int)) = satT (out + part * (k : Int)) := by
  rw [addT_sat hp hp]
  have hk : (k : Int) = 2 * ((k / 2 : Nat) : Int) + ((k % 2 : Nat) : Int) := by omega
  have hm : (0 : Int) ≤ ((k / 2 : Nat) : Int) := by omega
  by_cases h : k % 2 = 1
  · rw [if_pos h, addT_sat ho hp, satT_mul _ (by omega) (by omega) hm, hk, h]
    congr 1
    rw [Int.mul_add, ← Int.mul_assoc]
    have : part * 2 = part + part := by omega
    rw [this]
    simp
    omega
  · have h0 : k % 2 = 0 := by omega
    rw [if_neg h, hk, h0]
    have hso : satT (satT out + satT (part + part) * ((k / 2 : Nat) : Int)) = satT (out + satT (part + part) * ((k / 2 : Nat) : Int)) := by
      have h2 : 0 ≤ satT (part + part) * ((k / 2 : Nat) : Int) := Int.mul_nonneg (satT_nn (by omega)) hm
      generalize satT (part + part) * ((k / 2 : Nat) : Int) = z at h2 ⊢
      unfold satT
      repeat' split
      all_goals omega
    rw [← hso, satT_mul _ ho (by omega) hm]
    congr 1
    rw [Int.mul_add, ← Int.mul_assoc]
    have : part * 2 = part + part := by omega
    rw [this]
    simp
end Go.Proofs.YtdmdohjdmnmabaaGreat
namespace Go.Proofs.YtdmdohjdmnmabaaGreat
open Go.RowKit
set_option linter.unusedVariables false

set_option maxHeartbeats 1600000 in
theorem refTimes_c (t : Int) (n : Nat) (w : World) (ht : t ≤ 9223372036854775807) (hn : n ≤ 1000000000) : Calls Tryz.prog 94 #[.int .i64 t, .int .i64 n] w fun e w' => e = .returned (.int .i64 (satT (ownT t * n))) ∧ w' = w := by
  have C1 := hide (refOwn_c t)
  have h1 := ownT_nn t; have h3 := ownT_le ht
  obtain ⟨a, ha⟩ : ∃ a, a = ownT t := ⟨_, rfl⟩
  rw [← ha] at h1 h3 C1 ⊢
  clear ha
  go_enter Tryz.func94, Tryz.ntmps94
  go_wp2_with fail
  refine (C1.out _).mono ?_
  rintro e w1 ⟨rfl, rfl⟩
  go_wp2_with fail
  go_loopw [5, 6, 7] (fun o p i wr => ∃ (out part : Int) (k : Nat), o = .int .i64 out ∧ p = .int .i64 part ∧ i = .int .i64 k ∧ 0 ≤ out ∧ 0 ≤ part ∧ out ≤ 9223372036854775807 ∧ part ≤ 9223372036854775807 ∧ k ≤ 1000000000 ∧ Hid (satT (out + part * k) = satT (a * n)) ∧ wr = w1) (fun _ _ i _ => (intOf i).toNat)
  case atStart => exact ⟨0, a, n, rfl, rfl, rfl, Int.le_refl _, h1, by omega, h3, hn, hide (by rw [Int.zero_add]), rfl⟩
  case round =>
    obtain ⟨out, part, k, rfl, rfl, rfl, p1, p2, p3, p4, p5, hs, rfl⟩ := hrel
    by_cases hk : k = 0
    · subst hk
      have HI := hide (show satT (a * n) = out by
        rw [← hs.out]
        simp only [Int.mul_zero, Int.natCast_zero, Int.add_zero]
        unfold satT
        split <;> omega)
      go_wp2_with fail
      go_ret
      exact ⟨ret_int HI.out.symm, rfl⟩
    · have hd : decide ((0 : Int) < (k : Int)) = true := by simp; omega
      have CA := hide (refAdd_c out part)
      have CP := hide (refAdd_c part part)
      have HS := hide (sat_step k p1 p2)
      have a1 : 0 ≤ addT out part := by rw [addT_sat p1 p2]; exact satT_nn (by omega)
      have a2 : 0 ≤ addT part part := by rw [addT_sat p2 p2]; exact satT_nn (by omega)
      have a3 : addT out part ≤ 9223372036854775807 := by rw [addT_sat p1 p2]; exact satT_le _
      have a4 : addT part part ≤ 9223372036854775807 := by rw [addT_sat p2 p2]; exact satT_le _
      have q2 : Int.tdiv (k : Int) 2 = ((k / 2 : Nat) : Int) := by rw [Int.tdiv_eq_ediv_of_nonneg (by omega)]; omega
      cases ho : decide (k % 2 = 1) with
      | true =>
        have ho1 : k % 2 = 1 := by simpa using ho
        have q1 : Int.tmod (k : Int) 2 = 1 := by rw [Int.tmod_eq_emod_of_nonneg (by omega)]; omega
        have q3 : (k : Int) % 2 = 1 := by omega
        rw [if_pos ho1] at HS
        go_wp2_with fail
        refine (CA.out _ p3 p4).mono ?_
        rintro e w2 ⟨rfl, rfl⟩
        go_wp2_with fail
        refine (CP.out _ p4 p4).mono ?_
        rintro e w2 ⟨rfl, rfl⟩
        go_wp2_with fail
        go_roundw
        case rel => exact ⟨_, _, k / 2, rfl, rfl, by go_num, a1, a2, a3, a4, by omega, hide (by rw [HS.out, hs.out]), trivial⟩
        case measure => simp [intOf]; omega
      | false =>
        have ho1 : ¬ k % 2 = 1 := by simpa using ho
        have q1 : Int.tmod (k : Int) 2 = 0 := by rw [Int.tmod_eq_emod_of_nonneg (by omega)]; omega
        have q3 : (k : Int) % 2 = 0 := by omega
        rw [if_neg ho1] at HS
        go_wp2_with fail
        refine (CP.out _ p4 p4).mono ?_
        rintro e w2 ⟨rfl, rfl⟩
        go_wp2_with fail
        go_roundw
        case rel => exact ⟨_, _, k / 2, rfl, rfl, by go_num, p1, a2, p3, a4, by omega, hide (by rw [HS.out, hs.out]), trivial⟩
        case measure => simp [intOf]; omega
end Go.Proofs.YtdmdohjdmnmabaaGreat
namespace Go.Proofs
open Go.Shelf
def Tryz.laysMul64_ren : Go.Shelf.Ren := ⟨fun | 264 => 135 | n => n, fun | 53 => 153 | 46 => 195 | n => n, fun | n => n⟩
theorem Tryz.laysMul64 : Go.Proofs.Lays.n264 Tryz.prog Tryz.laysMul64_ren := {
  mixed := by kernel_rfl
  f264 := Tryz.func135.trans (congrArg some (by kernel_rfl))
  t46 := Tryz.underlying195
  a46 := Tryz.isAgg195
  z46 := Tryz.sizeOf195
  v46 := Tryz.zeroValue195
  t53 := Tryz.underlying153
  a53 := Tryz.isAgg153
  z53 := Tryz.sizeOf153
  v53 := Tryz.zeroValue153 }
end Go.Proofs
namespace Go.Proofs.YtdmdohjdmnmabaaGreat
open Go.RowKit Go.Shelf
set_option linter.unusedVariables false

set_option maxHeartbeats 1600000 in
theorem Times_c (t : Int) (n : Nat) (w : World) (ht : t ≤ 9223372036854775807) (hn : n ≤ 1000000000) : Calls Tryz.prog 116 #[.int .i64 t, .int .i64 n] w fun e w' => e = .returned (.int .i64 (satT (ownT t * n))) ∧ w' = w := by
  by_cases h0 : n = 0
  · subst h0
    have HI := hide (show satT (ownT t * ((0 : Nat) : Int)) = 0 by simp [satT])
    go_enter Tryz.func116, Tryz.ntmps116
    go_wp2_with fail
    go_ret
    exact ⟨ret_int HI.out.symm, rfl⟩
  · have hd1 : decide ((n : Int) < 1) = false := by simp; omega
    by_cases h1 : t < 1
    · have hd2 : decide (t < 1) = true := by simpa using h1
      have HI := hide (show satT (ownT t * (n : Int)) = 0 by
        have : ownT t = 0 := by unfold ownT; split <;> omega
        rw [this]; simp [satT])
      go_enter Tryz.func116, Tryz.ntmps116
      go_wp2_with fail
      go_ret
      exact ⟨ret_int HI.out.symm, rfl⟩
    · have hd2 : decide (t < 1) = false := by simpa using h1
      obtain ⟨x, rfl⟩ : ∃ x : Nat, t = x := ⟨t.toNat, by omega⟩
      have C := hide (fun (w : World) => Any.bits_Mul64 Tryz.laysMul64 x n (by omega) (by omega) w)
      have ho : ownT (x : Int) = x := by unfold ownT; rw [if_neg (by omega)]
      have e : ownT (x : Int) * (n : Int) = ((x * n : Nat) : Int) := by rw [ho]; simp
      rw [e]
      obtain ⟨p, hp⟩ : ∃ p, p = x * n := ⟨_, rfl⟩
      rw [← hp] at C ⊢
      have hu1 : IntKind.u64.wrap (x : Int) = x := IntWalk.u64_in _ (by omega)
      have hu2 : IntKind.u64.wrap (n : Int) = n := IntWalk.u64_in _ (by omega)
      clear hp e ho
      by_cases h2 : p < 9223372036854775807
      · have q1 : p / 18446744073709551616 = 0 := by omega
        have q2 : p % 18446744073709551616 = p := by omega
        rw [q1, q2] at C
        have HI := hide (show satT (p : Int) = p by unfold satT; rw [if_neg (by omega)])
        have hd3 : decide ((9223372036854775807 : Int) ≤ (p : Int)) = false := by simp; omega
        have hw : IntKind.i64.wrap (p : Int) = p := IntWalk.i64_in _ (by omega)
        go_enter Tryz.func116, Tryz.ntmps116
        go_wp2_with fail
        refine (C.out _).mono ?_
        rintro e w1 ⟨rfl, rfl⟩
        go_wp2_with fail
        go_ret
        exact ⟨ret_int HI.out.symm, rfl⟩
      · have HI := hide (show satT (p : Int) = 9223372036854775807 by unfold satT; rw [if_pos (by omega)])
        obtain ⟨a, ha⟩ : ∃ a, a = p / 18446744073709551616 := ⟨_, rfl⟩
        obtain ⟨b, hb⟩ : ∃ b, b = p % 18446744073709551616 := ⟨_, rfl⟩
        have hab : 0 < a ∨ 9223372036854775807 ≤ b := by omega
        rw [← ha, ← hb] at C
        clear ha hb
        by_cases h3 : 0 < a
        · have hd3 : decide ((0 : Int) < (a : Int)) = true := by simp; omega
          go_enter Tryz.func116, Tryz.ntmps116
          go_wp2_with fail
          refine (C.out _).mono ?_
          rintro e w1 ⟨rfl, rfl⟩
          go_wp2_with fail
          go_ret
          exact ⟨ret_int HI.out.symm, rfl⟩
        · have hd3 : decide ((0 : Int) < (a : Int)) = false := by simp; omega
          have hd4 : decide ((9223372036854775807 : Int) ≤ (b : Int)) = true := by simp; omega
          go_enter Tryz.func116, Tryz.ntmps116
          go_wp2_with fail
          refine (C.out _).mono ?_
          rintro e w1 ⟨rfl, rfl⟩
          go_wp2_with fail
          go_ret
          exact ⟨ret_int HI.out.symm, rfl⟩
end Go.Proofs.YtdmdohjdmnmabaaGreat
namespace Go.Proofs.YtdmdohjdmnmabaaGreat
open Go.RowKit
set_option linter.unusedVariables false

structure SetM where
  live : Int
  ring : Int
  win : Int
  out : Int
  quantum : Int
  visits : Int
abbrev setV (s : SetM) : Array Value := #[.int .i64 s.live, .int .i64 s.ring, .int .i64 s.win, .int .i64 s.out, .int .i64 s.quantum, .int .i64 s.visits]
def inB (n m : Int) : Bool := decide (1 ≤ n) && decide (n ≤ m)
def goodB (s : SetM) : Bool := inB s.ring 4096 && inB s.win 4096 && inB s.out 4096 && inB s.live 1024 && inB s.quantum 1000000 && inB s.visits 64
theorem in_c (n m : Int) (w : World) : Calls Tryz.prog 111 #[.int .i64 n, .int .i64 m] w fun e w' => e = .returned (.bool (inB n m)) ∧ w' = w := by
  unfold inB
  cases h1 : decide (1 ≤ n) with
  | false =>
    go_enter Tryz.func111, Tryz.ntmps111
    go_wp2_with fail
    go_ret
    exact ⟨rfl, rfl⟩
  | true =>
    cases h2 : decide (n ≤ m) with
    | false =>
      go_enter Tryz.func111, Tryz.ntmps111
      go_wp2_with fail
      go_ret
      exact ⟨rfl, rfl⟩
    | true =>
      go_enter Tryz.func111, Tryz.ntmps111
      go_wp2_with fail
      go_ret
      exact ⟨rfl, rfl⟩
end Go.Proofs.YtdmdohjdmnmabaaGreat
namespace Go.Proofs.YtdmdohjdmnmabaaGreat
open Go.RowKit
set_option linter.unusedVariables false

set_option maxHeartbeats 3200000 in
theorem cgood_c (s : SetM) (w : World) : Calls Tryz.prog 86 #[.agg (setV s)] w fun e w' => e = .returned (.bool (goodB s)) ∧ Below w.heap.size w w' := by
  unfold goodB
  cases h0 : inB s.ring 4096 with
  | false =>
    go_enter Tryz.func86, Tryz.ntmps86
    go_wp2_with (go_at_call 111; refine (in_c _ _ _).mono ?_; rintro e w1 ⟨rfl, rfl⟩)
    go_ret
    exact ⟨rfl, below_alloc _ _⟩
  | true =>
    cases h1 : inB s.win 4096 with
    | false =>
      go_enter Tryz.func86, Tryz.ntmps86
      go_wp2_with (go_at_call 111; refine (in_c _ _ _).mono ?_; rintro e w1 ⟨rfl, rfl⟩)
      go_ret
      exact ⟨rfl, below_alloc _ _⟩
    | true =>
      cases h2 : inB s.out 4096 with
      | false =>
        go_enter Tryz.func86, Tryz.ntmps86
        go_wp2_with (go_at_call 111; refine (in_c _ _ _).mono ?_; rintro e w1 ⟨rfl, rfl⟩)
        go_ret
        exact ⟨rfl, below_alloc _ _⟩
      | true =>
        cases h3 : inB s.live 1024 with
        | false =>
          go_enter Tryz.func86, Tryz.ntmps86
          go_wp2_with (go_at_call 111; refine (in_c _ _ _).mono ?_; rintro e w1 ⟨rfl, rfl⟩)
          go_ret
          exact ⟨rfl, below_alloc _ _⟩
        | true =>
          cases h4 : inB s.quantum 1000000 with
          | false =>
            go_enter Tryz.func86, Tryz.ntmps86
            go_wp2_with (go_at_call 111; refine (in_c _ _ _).mono ?_; rintro e w1 ⟨rfl, rfl⟩)
            go_ret
            exact ⟨rfl, below_alloc _ _⟩
          | true =>
            cases h5 : inB s.visits 64 with
            | false =>
              go_enter Tryz.func86, Tryz.ntmps86
              go_wp2_with (go_at_call 111; refine (in_c _ _ _).mono ?_; rintro e w1 ⟨rfl, rfl⟩)
              go_ret
              exact ⟨rfl, below_alloc _ _⟩
            | true =>
              go_enter Tryz.func86, Tryz.ntmps86
              go_wp2_with (go_at_call 111; refine (in_c _ _ _).mono ?_; rintro e w1 ⟨rfl, rfl⟩)
              go_ret
              exact ⟨rfl, below_alloc _ _⟩
end Go.Proofs.YtdmdohjdmnmabaaGreat
namespace Go.Proofs.YtdmdohjdmnmabaaGreat
open Go.RowKit
set_option linter.unusedVariables false

theorem cGood_c (s : SetM) (w : World) : Calls Tryz.prog 49 #[.agg (setV s)] w fun e w' => e = .returned (.bool (goodB s)) ∧ Below w.heap.size w w' := by
  have hL : Below w.heap.size w (w.alloc (.cells (setV s) 33)) := below_alloc _ _
  have C := hide (cgood_c s)
  have HL := hide hL
  clear hL
  go_enter Tryz.func49, Tryz.ntmps49
  go_wp2_with fail
  refine (C.out _).mono ?_
  rintro e w1 ⟨rfl, hb1⟩
  go_wp2_with fail
  go_ret
  first
    | exact ⟨rfl, hb1⟩
    | exact ⟨rfl, HL.out.trans (hb1.mono HL.out.size)⟩
def mostS (s : SetM) : Int := 1 + max s.win s.out
theorem most_c (s : SetM) (w : World) (h1 : 1 ≤ s.win) (h2 : s.win ≤ 4096) (h3 : 1 ≤ s.out) (h4 : s.out ≤ 4096) : Calls Tryz.prog 133 #[.agg (setV s)] w fun e w' => e = .returned (.int .i64 (mostS s)) ∧ Below w.heap.size w w' := by
  unfold mostS
  have hw : IntKind.i64.wrap (1 + max s.win s.out) = 1 + max s.win s.out := IntWalk.i64_in _ (by omega)
  go_enter Tryz.func133, Tryz.ntmps133
  go_wp2_with fail
  go_ret
  exact ⟨rfl, below_alloc _ _⟩
end Go.Proofs.YtdmdohjdmnmabaaGreat
namespace Go.Proofs.YtdmdohjdmnmabaaGreat
open Go.RowKit
set_option linter.unusedVariables false

def turnsS (s : SetM) : Int := (mostS s + s.quantum - 1) / s.quantum
theorem goodB_parts {s : SetM} (h : goodB s = true) : (1 ≤ s.ring ∧ s.ring ≤ 4096) ∧ (1 ≤ s.win ∧ s.win ≤ 4096) ∧ (1 ≤ s.out ∧ s.out ≤ 4096) ∧ (1 ≤ s.live ∧ s.live ≤ 1024) ∧ (1 ≤ s.quantum ∧ s.quantum ≤ 1000000) ∧ 1 ≤ s.visits ∧ s.visits ≤ 64 := by
  simp only [goodB, inB, Bool.and_eq_true, decide_eq_true_eq] at h
  omega
set_option maxHeartbeats 1600000 in
theorem turns_c (s : SetM) (w : World) (hg : goodB s = true) : Calls Tryz.prog 112 #[.agg (setV s)] w fun e w' => e = .returned (.int .i64 (turnsS s)) ∧ Below w.heap.size w w' := by
  obtain ⟨_, ⟨h1, h2⟩, ⟨h3, h4⟩, _, ⟨h5, h6⟩, _⟩ := goodB_parts hg
  obtain ⟨W, hW⟩ : ∃ W, W = w.alloc (.cells (setV s) 33) := ⟨_, rfl⟩
  have hL : Below w.heap.size w W := by rw [hW]; exact below_alloc _ _
  have hb : Blk W w.heap.size 33 (setV s) := by rw [hW]; exact Blk.new _ _ _
  have c := cgood_c s W
  rw [hg] at c
  have C := hide c
  have HW := hide hW
  have HL := hide hL
  have HB := hide hb
  have hm : 1 ≤ mostS s ∧ mostS s ≤ 4097 := by unfold mostS; omega
  have HM := hide (fun w' => most_c s w' h1 h2 h3 h4)
  unfold turnsS
  obtain ⟨m, hmm⟩ : ∃ m, m = mostS s := ⟨_, rfl⟩
  rw [← hmm] at hm HM ⊢
  have hw1 : IntKind.i64.wrap (m + s.quantum) = m + s.quantum := IntWalk.i64_in _ (by omega)
  have hw2 : IntKind.i64.wrap (m + s.quantum - 1) = m + s.quantum - 1 := IntWalk.i64_in _ (by omega)
  have hq0 : ¬ s.quantum = 0 := by omega
  have hq1 : (s.quantum == 0) = false := by simp; omega
  have hdiv : Int.tdiv (m + s.quantum - 1) s.quantum = (m + s.quantum - 1) / s.quantum := Int.tdiv_eq_ediv_of_nonneg (by omega)
  have hq : 0 ≤ (m + s.quantum - 1) / s.quantum := Int.ediv_nonneg (by omega) (by omega)
  have hq2 : (m + s.quantum - 1) / s.quantum ≤ m + s.quantum - 1 := Int.ediv_le_self _ (by omega)
  have hw3 : IntKind.i64.wrap ((m + s.quantum - 1) / s.quantum) = (m + s.quantum - 1) / s.quantum := IntWalk.i64_in _ (by omega)
  clear hg c hW hL hb hmm h1 h2 h3 h4
  go_enter Tryz.func112, Tryz.ntmps112
  go_wp2_with fail
  change Calls _ _ _ (w.alloc (.cells (setV s) 33)) _
  rw [← HW.out]
  refine C.out.mono ?_
  rintro e w1 ⟨rfl, hb1⟩
  have b1 := HB.out.below hb1
  have y0 : w1.cell? ⟨w.heap.size, 0, none⟩ = some (.int .i64 s.live) := by rw [b1.cell]; rfl
  have y1 : w1.cell? ⟨w.heap.size, 1, none⟩ = some (.int .i64 s.ring) := by rw [b1.cell]; rfl
  have y2 : w1.cell? ⟨w.heap.size, 2, none⟩ = some (.int .i64 s.win) := by rw [b1.cell]; rfl
  have y3 : w1.cell? ⟨w.heap.size, 3, none⟩ = some (.int .i64 s.out) := by rw [b1.cell]; rfl
  have y4 : w1.cell? ⟨w.heap.size, 4, none⟩ = some (.int .i64 s.quantum) := by rw [b1.cell]; rfl
  have y5 : w1.cell? ⟨w.heap.size, 5, none⟩ = some (.int .i64 s.visits) := by rw [b1.cell]; rfl
  have HB1 := hide (HL.out.trans (hb1.mono HL.out.size))
  clear b1 hb1
  go_wp2_with fail
  go_region_held3 (fun w' => w'.cell? ⟨w.heap.size, 0, none⟩ = some (.int .i64 s.live) ∧ w'.cell? ⟨w.heap.size, 1, none⟩ = some (.int .i64 s.ring) ∧ w'.cell? ⟨w.heap.size, 2, none⟩ = some (.int .i64 s.win) ∧ w'.cell? ⟨w.heap.size, 3, none⟩ = some (.int .i64 s.out) ∧ w'.cell? ⟨w.heap.size, 4, none⟩ = some (.int .i64 s.quantum) ∧ w'.cell? ⟨w.heap.size, 5, none⟩ = some (.int .i64 s.visits)) (go_keep)
    (first
      | (go_at_call 133
         refine (HM.out _).mono ?_
         rintro e w2 ⟨rfl, hb2⟩
         have v0 := bkeep hb2 y0
         have v1 := bkeep hb2 y1
         have v2 := bkeep hb2 y2
         have v3 := bkeep hb2 y3
         have v4 := bkeep hb2 y4
         have v5 := bkeep hb2 y5
         have HB2 := hide ((below_drew' HB1.out).trans (hb2.mono HB1.out.size))
         clear hb2))
  all_goals
    go_wp2_with fail
    go_ret
    exact ⟨rfl, HB2.out⟩
end Go.Proofs.YtdmdohjdmnmabaaGreat
namespace Go.Proofs.YtdmdohjdmnmabaaGreat
open Go.RowKit
set_option linter.unusedVariables false

def waitS (s : SetM) : Int := s.live * turnsS s
set_option maxHeartbeats 1600000 in
theorem wait_c (s : SetM) (w : World) (hg : goodB s = true) : Calls Tryz.prog 87 #[.agg (setV s)] w fun e w' => e = .returned (.int .i64 (waitS s)) ∧ Below w.heap.size w w' := by
  obtain ⟨_, ⟨h1, h2⟩, ⟨h3, h4⟩, ⟨h7, h8⟩, ⟨h5, h6⟩, _⟩ := goodB_parts hg
  obtain ⟨W, hW⟩ : ∃ W, W = w.alloc (.cells (setV s) 33) := ⟨_, rfl⟩
  have hL : Below w.heap.size w W := by rw [hW]; exact below_alloc _ _
  have hb : Blk W w.heap.size 33 (setV s) := by rw [hW]; exact Blk.new _ _ _
  have c := cgood_c s W
  rw [hg] at c
  have C := hide c
  have HW := hide hW
  have HL := hide hL
  have HB := hide hb
  have hm : 0 ≤ turnsS s ∧ turnsS s ≤ 1004096 := by
    have hmm : 1 ≤ mostS s ∧ mostS s ≤ 4097 := by unfold mostS; omega
    unfold turnsS
    have := Int.ediv_nonneg (a := mostS s + s.quantum - 1) (b := s.quantum) (by omega) (by omega)
    have := Int.ediv_le_self (a := mostS s + s.quantum - 1) s.quantum (by omega)
    omega
  have HM := hide (fun w' => turns_c s w' hg)
  unfold waitS
  obtain ⟨m, hmm⟩ : ∃ m, m = turnsS s := ⟨_, rfl⟩
  rw [← hmm] at hm HM ⊢
  have hp1 : 0 ≤ s.live * m := Int.mul_nonneg (by omega) hm.1
  have hp2 : s.live * m ≤ 1024 * 1004096 := Int.mul_le_mul h8 hm.2 hm.1 (by omega)
  have hw1 : IntKind.i64.wrap (s.live * m) = s.live * m := IntWalk.i64_in _ (by omega)
  clear hg c hW hL hb hmm h1 h2 h3 h4
  go_enter Tryz.func87, Tryz.ntmps87
  go_wp2_with fail
  change Calls _ _ _ (w.alloc (.cells (setV s) 33)) _
  rw [← HW.out]
  refine C.out.mono ?_
  rintro e w1 ⟨rfl, hb1⟩
  have b1 := HB.out.below hb1
  have y0 : w1.cell? ⟨w.heap.size, 0, none⟩ = some (.int .i64 s.live) := by rw [b1.cell]; rfl
  have y1 : w1.cell? ⟨w.heap.size, 1, none⟩ = some (.int .i64 s.ring) := by rw [b1.cell]; rfl
  have y2 : w1.cell? ⟨w.heap.size, 2, none⟩ = some (.int .i64 s.win) := by rw [b1.cell]; rfl
  have y3 : w1.cell? ⟨w.heap.size, 3, none⟩ = some (.int .i64 s.out) := by rw [b1.cell]; rfl
  have y4 : w1.cell? ⟨w.heap.size, 4, none⟩ = some (.int .i64 s.quantum) := by rw [b1.cell]; rfl
  have y5 : w1.cell? ⟨w.heap.size, 5, none⟩ = some (.int .i64 s.visits) := by rw [b1.cell]; rfl
  have HB1 := hide (HL.out.trans (hb1.mono HL.out.size))
  clear b1 hb1
  go_wp2_with fail
  go_region_held3 (fun w' => w'.cell? ⟨w.heap.size, 0, none⟩ = some (.int .i64 s.live) ∧ w'.cell? ⟨w.heap.size, 1, none⟩ = some (.int .i64 s.ring) ∧ w'.cell? ⟨w.heap.size, 2, none⟩ = some (.int .i64 s.win) ∧ w'.cell? ⟨w.heap.size, 3, none⟩ = some (.int .i64 s.out) ∧ w'.cell? ⟨w.heap.size, 4, none⟩ = some (.int .i64 s.quantum) ∧ w'.cell? ⟨w.heap.size, 5, none⟩ = some (.int .i64 s.visits)) (go_keep)
    (first
      | (go_at_call 112
         refine (HM.out _).mono ?_
         rintro e w2 ⟨rfl, hb2⟩
         have v0 := bkeep hb2 y0
         have v1 := bkeep hb2 y1
         have v2 := bkeep hb2 y2
         have v3 := bkeep hb2 y3
         have v4 := bkeep hb2 y4
         have v5 := bkeep hb2 y5
         have HB2 := hide ((below_drew' HB1.out).trans (hb2.mono HB1.out.size))
         clear hb2))
  all_goals
    go_wp2_with fail
    go_ret
    exact ⟨rfl, HB2.out⟩
end Go.Proofs.YtdmdohjdmnmabaaGreat
namespace Go.Proofs.YtdmdohjdmnmabaaGreat
open Go.RowKit
set_option linter.unusedVariables false

theorem addT_le (a b : Int) : addT a b ≤ 9223372036854775807 := by unfold addT; split <;> omega
def untilS (s : SetM) (at_ each : Int) : Int := addT (addT at_ (satT (ownT each * waitS s))) each
set_option maxHeartbeats 1600000 in
theorem Until_c (s : SetM) (at_ each : Int) (w : World) (hg : goodB s = true) (hw0 : 0 ≤ waitS s ∧ waitS s ≤ 1000000000) (ha : at_ ≤ 9223372036854775807) (he : each ≤ 9223372036854775807) : Calls Tryz.prog 92 #[.agg (setV s), .int .i64 at_, .int .i64 each] w fun e w' => e = .returned (.int .i64 (untilS s at_ each)) ∧ Below w.heap.size w w' := by
  obtain ⟨W, hW⟩ : ∃ W, W = w.alloc (.cells (setV s) 33) := ⟨_, rfl⟩
  have hL : Below w.heap.size w W := by rw [hW]; exact below_alloc _ _
  have hb : Blk W w.heap.size 33 (setV s) := by rw [hW]; exact Blk.new _ _ _
  have c := cgood_c s W
  rw [hg] at c
  have C := hide c
  have HW := hide hW
  have HL := hide hL
  have HB := hide hb
  have HM := hide (fun w' => wait_c s w' hg)
  obtain ⟨n, hn⟩ : ∃ n : Nat, (n : Int) = waitS s := ⟨(waitS s).toNat, by omega⟩
  unfold untilS
  rw [← hn] at HM ⊢
  have HT := hide (fun w' => Times_c each n w' he (by omega))
  have HA1 := hide (fun w' => Add_c at_ (satT (ownT each * n)) w' ha (satT_le _))
  have HA2 := hide (fun w' => Add_c (addT at_ (satT (ownT each * n))) each w' (addT_le _ _) he)
  clear hg c hW hL hb hn hw0
  go_enter Tryz.func92, Tryz.ntmps92
  go_wp2_with fail
  change Calls _ _ _ (w.alloc (.cells (setV s) 33)) _
  rw [← HW.out]
  refine C.out.mono ?_
  rintro e w1 ⟨rfl, hb1⟩
  have b1 := HB.out.below hb1
  have y0 : w1.cell? ⟨w.heap.size, 0, none⟩ = some (.int .i64 s.live) := by rw [b1.cell]; rfl
  have y1 : w1.cell? ⟨w.heap.size, 1, none⟩ = some (.int .i64 s.ring) := by rw [b1.cell]; rfl
  have y2 : w1.cell? ⟨w.heap.size, 2, none⟩ = some (.int .i64 s.win) := by rw [b1.cell]; rfl
  have y3 : w1.cell? ⟨w.heap.size, 3, none⟩ = some (.int .i64 s.out) := by rw [b1.cell]; rfl
  have y4 : w1.cell? ⟨w.heap.size, 4, none⟩ = some (.int .i64 s.quantum) := by rw [b1.cell]; rfl
  have y5 : w1.cell? ⟨w.heap.size, 5, none⟩ = some (.int .i64 s.visits) := by rw [b1.cell]; rfl
  have HB1 := hide (HL.out.trans (hb1.mono HL.out.size))
  clear b1 hb1
  go_wp2_with fail
  refine (HM.out _).mono ?_
  rintro e w2 ⟨rfl, hb2⟩
  have HB2 := hide (HB1.out.trans (hb2.mono HB1.out.size))
  clear hb2
  go_wp2_with fail
  refine (HT.out _).mono ?_
  rintro e w3 ⟨rfl, rfl⟩
  go_wp2_with fail
  refine (HA1.out _).mono ?_
  rintro e w3 ⟨rfl, rfl⟩
  go_wp2_with fail
  refine (HA2.out _).mono ?_
  rintro e w3 ⟨rfl, rfl⟩
  go_wp2_with fail
  go_ret
  exact ⟨rfl, HB2.out⟩
end Go.Proofs.YtdmdohjdmnmabaaGreat
