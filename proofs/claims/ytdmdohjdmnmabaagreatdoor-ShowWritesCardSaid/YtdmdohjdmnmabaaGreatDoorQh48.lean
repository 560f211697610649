/- Scripts, by the page: what is wrong of a pattern; small ones. Conditions: those of each theorem. -/
import Derived.Test.YtdmdohjdmnmabaaGreatDoorQh47
import Derived.Test.YtdmdohjdmnmabaaGreatDoorQh22
namespace Go.Proofs.YtdmdohjdmnmabaaGreatDoor
open Go.RowKit
set_option linter.unusedVariables false
set_option linter.unusedSimpArgs false

def itD (l : List ItM) (k : Nat) : ItM := l.getD k ⟨false, 0, 0, 0, 0⟩
theorem itD_cells {w : World} {M : Nat → Prop} {A : Option Addr} {l : List ItM} (hr : Rd w M A (flat encIt l)) (k : Nat) (hk : k < l.length) : ∃ b o, A = some ⟨b, o, none⟩ ∧ b < w.heap.size ∧
 w.cell? ⟨b, o + k * 5, none⟩ = some (.bool (itD l k).run) := by
 have e : l[k]? = some (itD l k) := by simp [itD, List.getD, hk]
 obtain ⟨b, o, hA, hm, hb, hc⟩ := flat_cells encIt_len hr k _ e (by omega)
 exact ⟨b, o, hA, hb, hc 0 (by omega)⟩
/-- how many are no runs -/
def leastN (l : List Bool) : Nat := (l.filter (fun b => !b)).length
theorem least_succ (l : List ItM) (k : Nat) (h : k < l.length) : leastN ((l.take (k + 1)).map (·.run)) = leastN ((l.take k).map (·.run)) + (if (itD l k).run = true then 0 else 1) := by
 have e : itD l k = l[k] := by simp [itD, List.getD, h]
 rw [List.take_succ_eq_append_getElem h, ← e, List.map_append]
 unfold leastN
 rw [List.filter_append, List.length_append]
 cases hr : (itD l k).run <;> simp [hr]
theorem least_le (l : List Bool) : leastN l ≤ l.length := List.length_filter_le _ _
theorem least_zero (l : List Bool) : leastN l = 0 ↔ l.all id = true := by
 unfold leastN
 rw [List.length_eq_zero_iff, List.filter_eq_nil_iff]
 simp
set_option maxRecDepth 100000 in
set_option maxHeartbeats 1600000 in
theorem refLeast_c (A : Option Addr) (c : Nat) (l : List ItM) (w : World) (hr : Rd w NoBlk A (flat encIt l)) (hn : l.length ≤ 60) :
 Calls Tryz.prog 140 #[.slice A l.length c] w fun e w' => e = .returned (.int .i64 (leastN (l.map (·.run)))) ∧ w' = w := by
 have Hc := hide (fun k hk => itD_cells hr k hk)
 obtain ⟨n, hnl⟩ : ∃ n, n = l.length := ⟨_, rfl⟩
 rw [← hnl] at hn ⊢
 have Hn := hide hnl
 clear hr hnl
 go_enter Tryz.func140, Tryz.ntmps140
 go_wp2_with fail
 go_loopw [3, 4] (fun v i wr => ∃ k m : Nat, k ≤ n ∧ m ≤ k ∧ v = .int .i64 m ∧ i = .int .i64 k ∧ Hid (leastN ((l.take k).map (·.run)) = m) ∧ wr = w) (fun _ i _ => n - (intOf i).toNat)
 case atStart => exact ⟨0, 0, Nat.zero_le _, Nat.zero_le _, rfl, rfl, hide rfl, rfl⟩
 case round =>
  obtain ⟨k, m, hk, hm, rfl, rfl, hml, rfl⟩ := hrel
  by_cases hlt : k < n
  ·obtain ⟨b, o, rfl, hb, g0⟩ := Hc.out k (by rw [← Hn.out]; exact hlt)
   have HF := hide (least_succ l k (by rw [← Hn.out]; exact hlt))
   obtain ⟨r, hrr⟩ : ∃ r, r = (itD l k).run := ⟨_, rfl⟩
   rw [← hrr] at g0 HF
   clear hrr
   have d1 : decide ((k : Int) < (n : Int)) = true := by simp; exact hlt
   have d2 : decide (k < n) = true := by simp; exact hlt
   have j1 : (0 : Int) ≤ (k : Int) := by omega
   have j2 : (k : Int) < (n : Int) := by omega
   cases r with
   | true =>
    go_wp2_with fail
    go_roundw
    case rel => exact ⟨k + 1, m, by omega, by omega, rfl, by go_num, hide (by rw [HF.out, hml.out]; rfl), trivial⟩
    case measure => simp [intOf]; omega
   | false =>
    go_wp2_with fail
    go_roundw
    case rel => exact ⟨k + 1, m + 1, by omega, by omega, by go_num, by go_num, hide (by rw [HF.out, hml.out]; rfl), trivial⟩
    case measure => simp [intOf]; omega
  ·have hke : k = n := by omega
   subst hke
   have hd : decide ((k : Int) < k) = false := by simp
   have hd2 : decide (k < k) = false := by simp
   have ht : l.take k = l := List.take_of_length_le (by rw [← Hn.out]; omega)
   rw [ht] at hml
   have HM := hide hml.out
   clear ht hlt hml
   go_wp2_with fail
   go_ret
   exact ⟨by rw [HM.out]; rfl, rfl⟩
def RetCheckD (l : List UInt8) (w : World) (e : Ending) (w' : World) : Prop :=
 (∃ (A : Option Addr) (n c : Nat), e = .returned (.tuple #[.slice A n c, .int .i64 (checkS l).1, .int .i64 (checkS l).2])) ∧ Below w.heap.size w w'
set_option maxRecDepth 100000 in
set_option maxHeartbeats 3200000 in
theorem refCheck_c (s : ByteArray) (w : World) (hs : s.size ≤ 9223372036854775806) : Calls Tryz.prog 107 #[.string s] w (RetCheckD s.data.toList w) := by
 have HP := hide (refParse_c s w hs)
 obtain ⟨L, hL⟩ : ∃ L, L = s.data.toList := ⟨_, rfl⟩
 rw [← hL] at HP ⊢
 clear hL
 go_enter Tryz.func107, Tryz.ntmps107
 go_wp2_with fail
 refine HP.out.mono ?_
 rintro e w2 ⟨A, c, its, rfl, hm, hl, hr, hb⟩
 have HC := hide (refLeast_c A c its w2 hr hl)
 have HB := hide hb
 by_cases he : (parsesS 0 L).2.2 = 0
 ·have hm' := hm he
  rw [hm'] at HC
  obtain ⟨v, hv⟩ : ∃ v, v = leastN (parsesS 0 L).1 := ⟨_, rfl⟩
  rw [← hv] at HC
  obtain ⟨n, hn⟩ : ∃ n, n = its.length := ⟨_, rfl⟩
  rw [← hn] at HC ⊢
  have hz := least_zero (parsesS 0 L).1
  rw [← hv] at hz
  have e0 : (parsesS 0 L).2.1 = 0 := (parseS_shape _ 0 L).2 he
  have hq : checkS L = if v = 0 then (0, 9) else (0, 0) := by
   unfold checkS
   rw [if_neg (by simp [he])]
   by_cases h : v = 0
   ·rw [if_pos (hz.1 h), if_pos h]
   ·rw [if_neg (fun h' => h (hz.2 h')), if_neg h]
  have HQ := hide hq
  rw [he, e0]
  clear hm hm' hl hr hb he hn hv hz e0 hq HP
  by_cases h0 : v = 0
  ·subst h0
   replace HQ := hide (HQ.out.trans (if_pos rfl))
   go_wp2_with fail
   refine HC.out.mono ?_
   rintro e w3 ⟨rfl, h3⟩
   obtain rfl := h3.symm
   go_wp2_with fail
   refine bodyPost_ret (v := .tuple #[.slice none 0 0, .int .i64 0, .int .i64 9]) (by simp [results, Tryz.results107, go_sem]) rfl ?_
   unfold RetCheckD
   rw [HQ.out]
   exact ⟨⟨none, 0, 0, rfl⟩, HB.out⟩
  ·have d1 : ((v : Int) == 0) = false := by simp; omega
   have d2 : (v == 0) = false := by simp; omega
   replace HQ := hide (HQ.out.trans (if_neg h0))
   clear h0
   go_wp2_with fail
   refine HC.out.mono ?_
   rintro e w3 ⟨rfl, h3⟩
   obtain rfl := h3.symm
   go_wp2_with fail
   refine bodyPost_ret (v := .tuple #[.slice A n c, .int .i64 (0 : Nat), .int .i64 (0 : Nat)]) (by simp [results, Tryz.results107, go_sem]) rfl ?_
   unfold RetCheckD
   rw [HQ.out]
   exact ⟨⟨A, n, c, rfl⟩, HB.out⟩
 ·have hq : checkS L = (parsesS 0 L).2 := by unfold checkS; rw [if_pos he]
  have HQ := hide hq
  obtain ⟨r0, a0, e0, h3⟩ : ∃ r0 a0 e0, parsesS 0 L = (r0, a0, e0) := ⟨_, _, _, rfl⟩
  rw [h3] at HQ he ⊢
  simp only at HQ he ⊢
  have hne : ((e0 : Int) == 0) = false := by simp; omega
  have hne2 : (e0 == 0) = false := by simp; omega
  obtain ⟨n, hn⟩ : ∃ n, n = its.length := ⟨_, rfl⟩
  rw [← hn]
  clear hm hl hr hb he hn hq h3 HP HC
  go_wp2_with fail
  refine bodyPost_ret (v := .tuple #[.slice A n c, .int .i64 a0, .int .i64 e0]) (by simp [results, Tryz.results107, go_sem]) rfl ?_
  unfold RetCheckD
  rw [HQ.out]
  exact ⟨⟨A, n, c, rfl⟩, HB.out⟩
set_option maxRecDepth 100000 in
set_option maxHeartbeats 1600000 in
theorem refComes_c (s : ByteArray) (d j : Int) (A : Option Addr) (n c : Nat) (gt : Int) (w : World) : Calls Tryz.prog 94 #[.agg #[.string s, .int .i64 d, .int .i64 j, .slice A n c], .int .i64 gt] w fun e w' => e = .returned (.bool (comesB n gt)) ∧ Below w.heap.size w w' := by
 unfold comesB
 cases h1 : decide (0 ≤ gt) with
 | false =>
  go_enter Tryz.func94, Tryz.ntmps94
  go_wp2_with fail
  go_ret
  exact ⟨rfl, below_alloc _ _⟩
 | true =>
  go_enter Tryz.func94, Tryz.ntmps94
  go_wp2_with fail
  go_ret
  exact ⟨rfl, below_alloc _ _⟩
theorem int_beq (a b : Int) : (a == b) = decide (a = b) := rfl
set_option maxRecDepth 100000 in
set_option maxHeartbeats 6400000 in
theorem refBare_c (k : Int) (t : ByteArray) (n gt : Int) (A : Option Addr) (l : List ArmM) (c : Nat) (x y : Int) (w : World) :
 Calls Tryz.prog 92 #[.agg #[.int .i64 k, .string t, .int .i64 n, .int .i64 gt, .slice A l.length c, .int .i64 x, .int .i64 y]] w fun e w' => e = .returned (.bool (bareB ⟨k, t, n, gt, l, x, y⟩)) ∧ Below w.heap.size w w' := by
 have HB := hide (show bareB ⟨k, t, n, gt, l, x, y⟩ = ((decide (k = 1) || decide (t.size = 0)) && (decide (k = 2) || decide (k = 4) || decide (n = 0)) && (decide (k = 3) || decide (gt = 0)) && (decide (k = 2) || (decide (l.length = 0) && decide (x = 0) && decide (y = 0)))) from rfl)
 obtain ⟨T, hT⟩ : ∃ T, T = bareB ⟨k, t, n, gt, l, x, y⟩ := ⟨_, rfl⟩
 rw [← hT] at HB ⊢
 obtain ⟨m, hm⟩ : ∃ m, m = l.length := ⟨_, rfl⟩
 rw [← hm] at HB ⊢
 clear hT hm
 by_cases ht : t.size = 0
 ·have e1 := ba_nil ht
  have e2 : t.toList.isEmpty = true := by rw [e1]; rfl
  have HB2 := hide (show T = ((decide (k = 2) || decide (k = 4) || decide (n = 0)) && (decide (k = 3) || decide (gt = 0)) && (decide (k = 2) || (decide (m = 0) && decide (x = 0) && decide (y = 0)))) by rw [HB.out, decide_eq_true ht]; simp)
  clear ht HB
  go_enter Tryz.func92, Tryz.ntmps92
  go_wp2
  all_goals
   go_ret
   refine ⟨?_, below_alloc _ _⟩
   have hh := HB2.out
   clear e2 HB2
   (try clear e1)
   subst hh
   first
    | (simp_all; done)
    | (simp_all; rfl)
    | (simp_all; omega)
    | (simp_all [bne]; done)
    | (simp_all [int_beq]; done)
 ·have e2 := ba_some ht
  have HB2 := hide (show T = (decide (k = 1) && (decide (k = 2) || decide (k = 4) || decide (n = 0)) && (decide (k = 3) || decide (gt = 0)) && (decide (k = 2) || (decide (m = 0) && decide (x = 0) && decide (y = 0)))) by rw [HB.out, decide_eq_false ht]; simp)
  clear ht HB
  go_enter Tryz.func92, Tryz.ntmps92
  go_wp2
  all_goals
   go_ret
   refine ⟨?_, below_alloc _ _⟩
   have hh := HB2.out
   clear e2 HB2
   (try clear e1)
   subst hh
   first
    | (simp_all; done)
    | (simp_all; rfl)
    | (simp_all; omega)
    | (simp_all [bne]; done)
    | (simp_all [int_beq]; done)
end Go.Proofs.YtdmdohjdmnmabaaGreatDoor
