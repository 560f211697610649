/- Parts of a chain of lemmas: RefPrg1, RefPrg2, RefName. Conditions: those of each theorem. -/
import Derived.Test.YtaioaojfdngfdaaGreatDoorNb34
import Derived.Test.YtaioaojfdngfdaaGreatDoorNb13
import Derived.Test.YtaioaojfdngfdaaGreatDoorNb19
import Derived.Deep.RegionHeld3
import Derived.Test.YtaioaojfdngfdaaGreatDoorNb09
set_option linter.unusedVariables false
set_option linter.unusedSimpArgs false
namespace Go.Proofs.YtaioaojfdngfdaaGreatDoor
open Go.RowKit
def itD (l : List ItM) (k : Nat) : ItM := l.getD k ⟨false, 0, 0, 0, 0⟩
theorem itD_cells {w : World} {M : Nat → Prop} {A : Option Addr} {l : List ItM} (hr : Rd w M A (flat encIt l)) (k : Nat) (hk : k < l.length) : ∃ b o, A = some ⟨b, o, none⟩ ∧ b < w.heap.size ∧
 w.cell? ⟨b, o + k * 5, none⟩ = some (.bool (itD l k).run) := by
 have e : l[k]? = some (itD l k) := by simp [itD, List.getD, hk]
 obtain ⟨b, o, hA, hm, hb, hc⟩ := flat_cells encIt_len hr k _ e (by omega)
 exact ⟨b, o, hA, hb, hc 0 (by omega)⟩
/-- how many are no runs -/
def leastN (l : List Bool) : Nat := (l.filter (fun b => !b)).length
theorem least_succ (l : List ItM) (k : Nat) (h : k < l.length) : leastN ((l.take (k + 1)).map (·.run)) = leastN ((l.take k).map (·.run)) + (if (itD l k).run = true then 0 else 1) := by
 have e : itD l k = l[k] := by simp [itD, List.getD, h]
 rw [List.take_succ_eq_append_getElem h, ← e, List.map_append]
 unfold leastN
 rw [List.filter_append, List.length_append]
 cases hr : (itD l k).run <;> simp [hr]
theorem least_le (l : List Bool) : leastN l ≤ l.length := List.length_filter_le _ _
theorem least_zero (l : List Bool) : leastN l = 0 ↔ l.all id = true := by
 unfold leastN
 rw [List.length_eq_zero_iff, List.filter_eq_nil_iff]
 simp
set_option maxRecDepth 100000 in
set_option maxHeartbeats 1600000 in
theorem refLeast_c (A : Option Addr) (c : Nat) (l : List ItM) (w : World) (hr : Rd w NoBlk A (flat encIt l)) (hn : l.length ≤ 60) :
 Calls Tryz.prog 151 #[.slice A l.length c] w fun e w' => e = .returned (.int .i64 (leastN (l.map (·.run)))) ∧ w' = w := by
 have Hc := hide (fun k hk => itD_cells hr k hk)
 obtain ⟨n, hnl⟩ : ∃ n, n = l.length := ⟨_, rfl⟩
 rw [← hnl] at hn ⊢
 have Hn := hide hnl
 clear hr hnl
 go_enter Tryz.func151, Tryz.ntmps151
 go_wp2_with fail
 go_loopw [3, 4] (fun v i wr => ∃ k m : Nat, k ≤ n ∧ m ≤ k ∧ v = .int .i64 m ∧ i = .int .i64 k ∧ Hid (leastN ((l.take k).map (·.run)) = m) ∧ wr = w) (fun _ i _ => n - (intOf i).toNat)
 case atStart => exact ⟨0, 0, Nat.zero_le _, Nat.zero_le _, rfl, rfl, hide rfl, rfl⟩
 case round =>
  obtain ⟨k, m, hk, hm, rfl, rfl, hml, rfl⟩ := hrel
  by_cases hlt : k < n
  ·obtain ⟨b, o, rfl, hb, g0⟩ := Hc.out k (by rw [← Hn.out]; exact hlt)
   have HF := hide (least_succ l k (by rw [← Hn.out]; exact hlt))
   obtain ⟨r, hrr⟩ : ∃ r, r = (itD l k).run := ⟨_, rfl⟩
   rw [← hrr] at g0 HF
   clear hrr
   have d1 : decide ((k : Int) < (n : Int)) = true := by simp; exact hlt
   have d2 : decide (k < n) = true := by simp; exact hlt
   have j1 : (0 : Int) ≤ (k : Int) := by omega
   have j2 : (k : Int) < (n : Int) := by omega
   cases r with
   | true =>
    go_wp2_with fail
    go_roundw
    case rel => exact ⟨k + 1, m, by omega, by omega, rfl, by go_num, hide (by rw [HF.out, hml.out]; rfl), trivial⟩
    case measure => simp [intOf]; omega
   | false =>
    go_wp2_with fail
    go_roundw
    case rel => exact ⟨k + 1, m + 1, by omega, by omega, by go_num, by go_num, hide (by rw [HF.out, hml.out]; rfl), trivial⟩
    case measure => simp [intOf]; omega
  ·have hke : k = n := by omega
   subst hke
   have hd : decide ((k : Int) < k) = false := by simp
   have hd2 : decide (k < k) = false := by simp
   have ht : l.take k = l := List.take_of_length_le (by rw [← Hn.out]; omega)
   rw [ht] at hml
   have HM := hide hml.out
   clear ht hlt hml
   go_wp2_with fail
   go_ret
   exact ⟨by rw [HM.out]; rfl, rfl⟩
def RetCheckD (l : List UInt8) (w : World) (e : Ending) (w' : World) : Prop :=
 (∃ (A : Option Addr) (n c : Nat), e = .returned (.tuple #[.slice A n c, .int .i64 (checkS l).1, .int .i64 (checkS l).2])) ∧ Below w.heap.size w w'
set_option maxRecDepth 100000 in
set_option maxHeartbeats 3200000 in
theorem refCheck_c (s : ByteArray) (w : World) (hs : s.size ≤ 9223372036854775806) : Calls Tryz.prog 119 #[.string s] w (RetCheckD s.data.toList w) := by
 have HP := hide (refParse_c s w hs)
 obtain ⟨L, hL⟩ : ∃ L, L = s.data.toList := ⟨_, rfl⟩
 rw [← hL] at HP ⊢
 clear hL
 go_enter Tryz.func119, Tryz.ntmps119
 go_wp2_with fail
 refine HP.out.mono ?_
 rintro e w2 ⟨A, c, its, rfl, hm, hl, hr, hb⟩
 have HC := hide (refLeast_c A c its w2 hr hl)
 have HB := hide hb
 by_cases he : (parsesS 0 L).2.2 = 0
 ·have hm' := hm he
  rw [hm'] at HC
  obtain ⟨v, hv⟩ : ∃ v, v = leastN (parsesS 0 L).1 := ⟨_, rfl⟩
  rw [← hv] at HC
  obtain ⟨n, hn⟩ : ∃ n, n = its.length := ⟨_, rfl⟩
  rw [← hn] at HC ⊢
  have hz := least_zero (parsesS 0 L).1
  rw [← hv] at hz
  have e0 : (parsesS 0 L).2.1 = 0 := (parseS_shape _ 0 L).2 he
  have hq : checkS L = if v = 0 then (0, 9) else (0, 0) := by
   unfold checkS
   rw [if_neg (by simp [he])]
   by_cases h : v = 0
   ·rw [if_pos (hz.1 h), if_pos h]
   ·rw [if_neg (fun h' => h (hz.2 h')), if_neg h]
  have HQ := hide hq
  rw [he, e0]
  clear hm hm' hl hr hb he hn hv hz e0 hq HP
  by_cases h0 : v = 0
  ·subst h0
   replace HQ := hide (HQ.out.trans (if_pos rfl))
   go_wp2_with fail
   refine HC.out.mono ?_
   rintro e w3 ⟨rfl, h3⟩
   obtain rfl := h3.symm
   go_wp2_with fail
   refine bodyPost_ret (v := .tuple #[.slice none 0 0, .int .i64 0, .int .i64 9]) (by simp [results, Tryz.results119, go_sem]) rfl ?_
   unfold RetCheckD
   rw [HQ.out]
   exact ⟨⟨none, 0, 0, rfl⟩, HB.out⟩
  ·have d1 : ((v : Int) == 0) = false := by simp; omega
   have d2 : (v == 0) = false := by simp; omega
   replace HQ := hide (HQ.out.trans (if_neg h0))
   clear h0
   go_wp2_with fail
   refine HC.out.mono ?_
   rintro e w3 ⟨rfl, h3⟩
   obtain rfl := h3.symm
   go_wp2_with fail
   refine bodyPost_ret (v := .tuple #[.slice A n c, .int .i64 (0 : Nat), .int .i64 (0 : Nat)]) (by simp [results, Tryz.results119, go_sem]) rfl ?_
   unfold RetCheckD
   rw [HQ.out]
   exact ⟨⟨A, n, c, rfl⟩, HB.out⟩
 ·have hq : checkS L = (parsesS 0 L).2 := by unfold checkS; rw [if_pos he]
  have HQ := hide hq
  obtain ⟨r0, a0, e0, h3⟩ : ∃ r0 a0 e0, parsesS 0 L = (r0, a0, e0) := ⟨_, _, _, rfl⟩
  rw [h3] at HQ he ⊢
  simp only at HQ he ⊢
  have hne : ((e0 : Int) == 0) = false := by simp; omega
  have hne2 : (e0 == 0) = false := by simp; omega
  obtain ⟨n, hn⟩ : ∃ n, n = its.length := ⟨_, rfl⟩
  rw [← hn]
  clear hm hl hr hb he hn hq h3 HP HC
  go_wp2_with fail
  refine bodyPost_ret (v := .tuple #[.slice A n c, .int .i64 a0, .int .i64 e0]) (by simp [results, Tryz.results119, go_sem]) rfl ?_
  unfold RetCheckD
  rw [HQ.out]
  exact ⟨⟨A, n, c, rfl⟩, HB.out⟩
set_option maxRecDepth 100000 in
set_option maxHeartbeats 1600000 in
theorem refComes_c (s : ByteArray) (d j : Int) (A : Option Addr) (n c : Nat) (gt : Int) (w : World) : Calls Tryz.prog 124 #[.agg #[.string s, .int .i64 d, .int .i64 j, .slice A n c], .int .i64 gt] w fun e w' => e = .returned (.bool (comesB n gt)) ∧ Below w.heap.size w w' := by
 unfold comesB
 cases h1 : decide (0 ≤ gt) with
 | false =>
  go_enter Tryz.func124, Tryz.ntmps124
  go_wp2_with fail
  go_ret
  exact ⟨rfl, below_alloc _ _⟩
 | true =>
  go_enter Tryz.func124, Tryz.ntmps124
  go_wp2_with fail
  go_ret
  exact ⟨rfl, below_alloc _ _⟩
theorem int_beq (a b : Int) : (a == b) = decide (a = b) := rfl
set_option maxRecDepth 100000 in
set_option maxHeartbeats 6400000 in
theorem refBare_c (k : Int) (t : ByteArray) (n gt : Int) (A : Option Addr) (l : List ArmM) (c : Nat) (x y : Int) (w : World) :
 Calls Tryz.prog 122 #[.agg #[.int .i64 k, .string t, .int .i64 n, .int .i64 gt, .slice A l.length c, .int .i64 x, .int .i64 y]] w fun e w' => e = .returned (.bool (bareB ⟨k, t, n, gt, l, x, y⟩)) ∧ Below w.heap.size w w' := by
 have HB := hide (show bareB ⟨k, t, n, gt, l, x, y⟩ = ((decide (k = 1) || decide (t.size = 0)) && (decide (k = 2) || decide (k = 4) || decide (n = 0)) && (decide (k = 3) || decide (gt = 0)) && (decide (k = 2) || (decide (l.length = 0) && decide (x = 0) && decide (y = 0)))) from rfl)
 obtain ⟨T, hT⟩ : ∃ T, T = bareB ⟨k, t, n, gt, l, x, y⟩ := ⟨_, rfl⟩
 rw [← hT] at HB ⊢
 obtain ⟨m, hm⟩ : ∃ m, m = l.length := ⟨_, rfl⟩
 rw [← hm] at HB ⊢
 clear hT hm
 by_cases ht : t.size = 0
 ·have e1 := ba_nil ht
  have e2 : t.toList.isEmpty = true := by rw [e1]; rfl
  have HB2 := hide (show T = ((decide (k = 2) || decide (k = 4) || decide (n = 0)) && (decide (k = 3) || decide (gt = 0)) && (decide (k = 2) || (decide (m = 0) && decide (x = 0) && decide (y = 0)))) by rw [HB.out, decide_eq_true ht]; simp)
  clear ht HB
  go_enter Tryz.func122, Tryz.ntmps122
  go_wp2
  all_goals
   go_ret
   refine ⟨?_, below_alloc _ _⟩
   have hh := HB2.out
   clear e2 HB2
   (try clear e1)
   subst hh
   first
    | (simp_all; done)
    | (simp_all; rfl)
    | (simp_all; omega)
    | (simp_all [bne]; done)
    | (simp_all [int_beq]; done)
 ·have e2 := ba_some ht
  have HB2 := hide (show T = (decide (k = 1) && (decide (k = 2) || decide (k = 4) || decide (n = 0)) && (decide (k = 3) || decide (gt = 0)) && (decide (k = 2) || (decide (m = 0) && decide (x = 0) && decide (y = 0)))) by rw [HB.out, decide_eq_false ht]; simp)
  clear ht HB
  go_enter Tryz.func122, Tryz.ntmps122
  go_wp2
  all_goals
   go_ret
   refine ⟨?_, below_alloc _ _⟩
   have hh := HB2.out
   clear e2 HB2
   (try clear e1)
   subst hh
   first
    | (simp_all; done)
    | (simp_all; rfl)
    | (simp_all; omega)
    | (simp_all [bne]; done)
    | (simp_all [int_beq]; done)
set_option maxRecDepth 100000 in
set_option maxHeartbeats 12800000 in
theorem refExpect_c (s : ByteArray) (d j : Int) (PA : Option Addr) (pn pc : Nat) (k : Int) (t : ByteArray) (n gt : Int) (A : Option Addr) (l : List ArmM) (c : Nat) (x y : Int) (w : World)
 (hr : Rd w NoBlk A (flat encArm l)) (hn : l.length ≤ maxLen) (hsz : ∀ a ∈ l, a.pat.size ≤ 9223372036854775807) :
 Calls Tryz.prog 123 #[.agg #[.string s, .int .i64 d, .int .i64 j, .slice PA pn pc], .agg #[.int .i64 k, .string t, .int .i64 n, .int .i64 gt, .slice A l.length c, .int .i64 x, .int .i64 y]] w fun e w' => e = .returned (.int .i64 (expectE pn ⟨k, t, n, gt, l, x, y⟩)) ∧ Below w.heap.size w w' := by
 have hn' : l.length ≤ 9223372036854775807 := hn
 have HE := hide (show expectE pn ⟨k, t, n, gt, l, x, y⟩ = if (nevB n || tickB 0 n) = false then 12 else if 8 < l.length then 4 else if firstE (l.map (armE pn)) ≠ 0 then firstE (l.map (armE pn)) else if (toB pn x && toB pn y) = true then 0 else 13 from rfl)
 have HPs := hide (fun (i : Nat) (hi : i < l.length) => hsz _ (List.mem_of_getElem? (armAt_some hi)))
 have HF1 := hide (fun (i : Nat) (hi : i < l.length) (h : ∀ q, q < i → armE pn (armAt l q) = 0) (hne : armE pn (armAt l i) ≠ 0) => (show firstE (l.map (armE pn)) = armE pn (armAt l i) from by
  have e := map_getD (armE pn) l ⟨⟨#[]⟩, 0⟩ i hi
  rw [firstE_take (k := i) (fun q hq => by rw [map_getD (armE pn) l ⟨⟨#[]⟩, 0⟩ q (by omega)]; exact h q hq) (by simpa using hi) (by rw [e]; exact hne), e]
  rfl))
 have HF2 := hide (fun (h : ∀ q, q < l.length → armE pn (armAt l q) = 0) => (show firstE (l.map (armE pn)) = 0 from firstE_zero (fun q hq => by rw [map_getD (armE pn) l ⟨⟨#[]⟩, 0⟩ q (by simpa using hq)]; exact h q (by simpa using hq))))
 have HC := hide (fun (g : Int) (w' : World) => refComes_c s d j PA pn pc g w')
 obtain ⟨m, hm⟩ : ∃ m, m = l.length := ⟨_, rfl⟩
 obtain ⟨T, hT⟩ : ∃ T, T = expectE pn ⟨k, t, n, gt, l, x, y⟩ := ⟨_, rfl⟩
 rw [← hT] at HE ⊢
 rw [← hm] at hn' HE HPs HF1 HF2 ⊢
 have HM := hide hm
 obtain ⟨W, hW⟩ : ∃ W, W = (w.alloc (.cells #[.string s, .int .i64 d, .int .i64 j, .slice PA pn pc] 25)).alloc (.cells #[.int .i64 k, .string t, .int .i64 n, .int .i64 gt, .slice A m c, .int .i64 x, .int .i64 y] 92) := ⟨_, rfl⟩
 have HO := hide (show Below w.heap.size w W by rw [hW]; exact (below_alloc _ _).alloc (by simp) _)
 have HP := hide (show Blk W w.heap.size 25 #[.string s, .int .i64 d, .int .i64 j, .slice PA pn pc] by rw [hW]; exact (Blk.new w 25 _).alloc _)
 have HV := hide (show Blk W (w.heap.size + 1) 92 #[.int .i64 k, .string t, .int .i64 n, .int .i64 gt, .slice A m c, .int .i64 x, .int .i64 y] by rw [hW]; exact Blk.new' (by simp))
 have HR := hide (fun (w' : World) (h : Below w.heap.size w w') (i : Nat) (hi : i < m) => arm_cells (hr.below h) i (by rw [← HM.out]; exact hi))
 have HW := hide hW
 clear hW hr hn hsz hm hT
 go_enter Tryz.func123, Tryz.ntmps123
 go_upto_region 1 with fail
 change Code.wp _ _ _ _ ((w.alloc (.cells #[.string s, .int .i64 d, .int .i64 j, .slice PA pn pc] 25)).alloc (.cells #[.int .i64 k, .string t, .int .i64 n, .int .i64 gt, .slice A m c, .int .i64 x, .int .i64 y] 92))
 rw [← HW.out]
 obtain ⟨v0, v1, v2, v3, v4, v5, v6⟩ := HV.out.seven
 go_cut [21] from 9 to 20 (fun v wx => v = .bool (!(nevB n || tickB 0 n)) ∧ W = wx)
 case first =>
  by_cases hnv : n = 9223372036854775807
  ·subst hnv
   go_wp2_with fail
   go_meet
   exact ⟨rfl, rfl⟩
  ·have hnb : (n != 9223372036854775807) = true := by simpa using hnv
   have HT := hide (show (!(nevB n || tickB 0 n)) = (decide (n < 0) || decide (1000000000000 < n)) by
    unfold nevB tickB
    rw [decide_eq_false hnv]
    by_cases h1 : n < 0
    ·simp [h1] <;> omega
    ·by_cases h2 : 1000000000000 < n
     ·simp [h1, h2]
     ·simp [h1, h2] <;> omega)
   clear hnv
   cases h1 : decide (n < 0) with
   | true =>
    rw [h1] at HT
    go_wp2_with fail
    go_meet
    exact ⟨by rw [HT.out]; rfl, rfl⟩
   | false =>
    rw [h1] at HT
    go_wp2_with fail
    go_meet
    exact ⟨by rw [HT.out]; simp, rfl⟩
 case rest =>
  obtain ⟨rfl, rfl⟩ := hcut
  obtain ⟨z, hz⟩ : ∃ z, z = !(nevB n || tickB 0 n) := ⟨_, rfl⟩
  rw [← hz]
  cases z with
  | true =>
   have HQ := hide (HE.out.trans (if_pos (by simpa using hz.symm)))
   clear hz
   go_wp2_with fail
   go_ret
   exact ⟨by rw [HQ.out]; rfl, HO.out⟩
  | false =>
   replace HE := hide (HE.out.trans (if_neg (by intro h; rw [h] at hz; cases hz)))
   clear hz
   by_cases h8 : 8 < m
   ·have d1 : decide ((8 : Int) < (m : Int)) = true := by simp; omega
    have d2 : decide (8 < m) = true := by simp; exact h8
    have HQ := hide (HE.out.trans (if_pos h8))
    go_wp2_with fail
    go_ret
    exact ⟨by rw [HQ.out]; rfl, HO.out⟩
   ·have d1 : decide ((8 : Int) < (m : Int)) = false := by simp; omega
    have d2 : decide (8 < m) = false := by simp; omega
    replace HE := hide (HE.out.trans (if_neg h8))
    clear h8
    go_wp2_with fail
    go_loopw [5] (fun i wr => ∃ q : Nat, q ≤ m ∧ i = .int .i64 q ∧ Hid (∀ i, i < q → armE pn (armAt l i) = 0) ∧ Hid (Below w.heap.size w wr) ∧ Hid (Blk wr w.heap.size 25 #[.string s, .int .i64 d, .int .i64 j, .slice PA pn pc]) ∧ Hid (Blk wr (w.heap.size + 1) 92 #[.int .i64 k, .string t, .int .i64 n, .int .i64 gt, .slice A m c, .int .i64 x, .int .i64 y])) (fun i _ => m - (intOf i).toNat)
    case atStart => exact ⟨0, Nat.zero_le _, rfl, hide (fun i h => by omega), HO, HP, HV⟩
    case round =>
     clear HO HP HV v0 v1 v2 v3 v4 v5 v6 d1 d2 HW
     obtain ⟨q, hq, rfl, HZ, HO, HP, HV⟩ := hrel
     obtain ⟨⟨g0, g1, g2, g3⟩, _⟩ := HP.out.four
     obtain ⟨v0, v1, v2, v3, v4, v5, v6⟩ := HV.out.seven
     by_cases hlt : q < m
     ·obtain ⟨b, o, rfl, hb, r0, r1⟩ := HR.out wr HO.out q hlt
      have HF1q := hide (HF1.out q hlt HZ.out)
      have HZq := hide (fun (h : armE pn (armAt l q) = 0) (i : Nat) (hi : i < q + 1) => (show armE pn (armAt l i) = 0 from by
       by_cases e : i = q
       ·rw [e]; exact h
       ·exact HZ.out i (by omega)))
      have hps := HPs.out q hlt
      obtain ⟨a, ha⟩ : ∃ a, a = armAt l q := ⟨_, rfl⟩
      rw [← ha] at r0 r1 HF1q HZq hps
      clear ha
      obtain ⟨ap, at_⟩ := a
      simp only at hps r0 r1
      have HAE := hide (show armE pn ⟨ap, at_⟩ = if 64 < ap.size then 4 else if patE ap ≠ 0 then patE ap else if comesB pn at_ = true then 0 else 13 from rfl)
      obtain ⟨E, hE⟩ : ∃ E, E = armE pn ⟨ap, at_⟩ := ⟨_, rfl⟩
      rw [← hE] at HF1q HZq HAE
      clear hE
      have j1 : (0 : Int) ≤ (q : Int) := by omega
      have j2 : (q : Int) < (m : Int) := by omega
      have d1 : decide ((q : Int) < (m : Int)) = true := by simp; exact hlt
      have d2 : decide (q < m) = true := by simp; exact hlt
      have w1 : IntKind.i64.wrap ((q : Int) + 1) = (q : Int) + 1 := IntWalk.i64_in _ (by omega)
      by_cases h64 : 64 < ap.size
      ·have e1 : decide ((64 : Int) < (ap.size : Int)) = true := by simp; omega
       have e2 : decide (64 < ap.size) = true := by simp; omega
       have HQ := hide (HAE.out.trans (if_pos h64))
       have HQ2 := hide (HE.out.trans (if_pos (by rw [HF1q.out (by rw [HQ.out]; decide), HQ.out]; decide)))
       have HQ3 := hide (show T = 4 by rw [HQ2.out, HF1q.out (by rw [HQ.out]; decide), HQ.out])
       clear h64
       go_wp2_with fail
       go_ret
       exact ⟨by rw [HQ3.out]; rfl, HO.out⟩
      ·have e1 : decide ((64 : Int) < (ap.size : Int)) = false := by simp; omega
       have e2 : decide (64 < ap.size) = false := by simp; omega
       replace HAE := hide (HAE.out.trans (if_neg h64))
       have HCk := hide (refCheck_c ap wr (by omega))
       obtain ⟨a0, b0, hck⟩ : ∃ a0 b0, checkS ap.data.toList = (a0, b0) := ⟨_, _, rfl⟩
       have hpe : patE ap = (b0 : Nat) := by unfold patE; rw [hck]
       unfold RetCheckD at HCk
       rw [hck] at HCk
       rw [hpe] at HAE
       clear h64 hck hpe
       by_cases hb0 : b0 = 0
       ·subst hb0
        replace HAE := hide (HAE.out.trans (if_neg (by simp)))
        have HCm := hide (fun w => HC.out at_ w)
        obtain ⟨cm, hcm⟩ : ∃ cm, cm = comesB pn at_ := ⟨_, rfl⟩
        rw [← hcm] at HAE HCm
        clear hcm
        go_wp2_with fail
        refine HCk.out.mono ?_
        rintro e w2 ⟨⟨CA, cn, cc, rfl⟩, hb2⟩
        have HO2 := hide (HO.out.trans (hb2.mono HO.out.size))
        have HP2 := hide (HP.out.below hb2)
        have HV2 := hide (HV.out.below hb2)
        replace r1 := bkeep hb2 r1
        clear hb2 g0 g1 g2 g3 v0 v1 v2 v3 v4 v5 v6 r0
        obtain ⟨⟨g0, g1, g2, g3⟩, _⟩ := HP2.out.four
        obtain ⟨_, _, _, _, v4, _, _⟩ := HV2.out.seven
        have hbw : b < w2.heap.size := World.block_lt_of_cell? _ _ r1
        go_upto_region 13 with fail
        go_region_held3 (fun w' => w'.cell? ⟨w.heap.size, 0, none⟩ = some (.string s) ∧ w'.cell? ⟨w.heap.size, 1, none⟩ = some (.int .i64 d) ∧ w'.cell? ⟨w.heap.size, 2, none⟩ = some (.int .i64 j) ∧ w'.cell? ⟨w.heap.size, 3, none⟩ = some (.slice PA pn pc) ∧ w'.cell? ⟨w.heap.size + 1, 4, none⟩ = some (.slice (some ⟨b, o, none⟩) m c) ∧ w'.cell? ⟨b, o + q * 2 + 1, none⟩ = some (.int .i64 at_)) (go_keep)
         (first
           | (go_at_call 124
              refine (HCm.out _).mono ?_
              rintro e w3 ⟨rfl, hb3⟩
              have HO3 := hide ((below_dr HO2.out).trans (hb3.mono HO2.out.size))
              have HP3 := hide (HP2.out.drew.below hb3)
              have HV3 := hide (HV2.out.drew.below hb3)
              replace r1 := bkeep hb3 r1
              replace g0 := bkeep hb3 g0
              replace g1 := bkeep hb3 g1
              replace g2 := bkeep hb3 g2
              replace g3 := bkeep hb3 g3
              replace v4 := bkeep hb3 v4
              clear hb3))
        cases cm with
        | true =>
         have HQ := hide (HAE.out.trans (if_pos rfl))
         go_wp2_with fail
         go_roundw
         case rel => exact ⟨q + 1, by omega, by go_num, hide (HZq.out HQ.out), HO3, HP3, HV3⟩
         case measure => simp [intOf]; omega
        | false =>
         have HQ := hide (HAE.out.trans (if_neg (by simp)))
         have HQ2 := hide (HE.out.trans (if_pos (by rw [HF1q.out (by rw [HQ.out]; decide), HQ.out]; decide)))
         have HQ3 := hide (show T = 13 by rw [HQ2.out, HF1q.out (by rw [HQ.out]; decide), HQ.out])
         go_wp2_with fail
         go_ret
         exact ⟨by rw [HQ3.out]; rfl, HO3.out⟩
       ·have hne : ((b0 : Int) != 0) = true := by simp only [bne_iff_ne, ne_eq]; omega
        have HQ := hide (HAE.out.trans (if_pos (by omega)))
        have hE0 : E ≠ 0 := by rw [HQ.out]; omega
        have HQ3 := hide (show T = (b0 : Int) by rw [(HE.out.trans (if_pos (by rw [HF1q.out hE0]; exact hE0))), HF1q.out hE0, HQ.out])
        clear hb0 hE0
        go_wp2_with fail
        refine HCk.out.mono ?_
        rintro e w2 ⟨⟨CA, cn, cc, rfl⟩, hb2⟩
        have HO2 := hide (HO.out.trans (hb2.mono HO.out.size))
        clear hb2
        go_wp2_with fail
        go_ret
        exact ⟨by rw [HQ3.out]; rfl, HO2.out⟩
     ·obtain rfl : q = m := by omega
      have d1 : decide ((q : Int) < (q : Int)) = false := by simp
      have d2 : decide (q < q) = false := by simp
      have HQ := hide (HE.out.trans (if_neg (by rw [HF2.out HZ.out]; simp)))
      clear hlt HE HF1 HF2
      have HTo := hide (show ∀ z, toB pn z = (decide (z = -1) || comesB pn z) from fun z => rfl)
      go_upto_region 15 with fail
      go_cut [85] from 64 to 84 (fun v wx => v = .bool (!(toB pn x && toB pn y)) ∧ Hid (Below w.heap.size w wx))
      case first =>
       by_cases hx : x = -1
       ·have bx : (x != -1) = false := by simp [hx]
        have HX := hide (show toB pn x = true by rw [HTo.out, hx]; rfl)
        clear hx
        by_cases hy : y = -1
        ·have by_ : (y != -1) = false := by simp [hy]
         have HY := hide (show toB pn y = true by rw [HTo.out, hy]; rfl)
         clear hy
         go_wp2_with fail
         go_meet
         exact ⟨by rw [HX.out, HY.out]; rfl, HO⟩
        ·have by_ : (y != -1) = true := by simpa using hy
         have HY := hide (show toB pn y = comesB pn y by rw [HTo.out, decide_eq_false hy]; rfl)
         clear hy
         go_wp2_with fail
         refine (HC.out _ _).mono ?_
         rintro e w3 ⟨rfl, hb3⟩
         have HO3 := hide (HO.out.trans (hb3.mono HO.out.size))
         go_wp2_with fail
         go_meet
         exact ⟨by rw [HX.out, HY.out]; simp, HO3⟩
       ·have bx : (x != -1) = true := by simpa using hx
        have HX := hide (show toB pn x = comesB pn x by rw [HTo.out, decide_eq_false hx]; rfl)
        obtain ⟨cx, hcx⟩ : ∃ cx, cx = comesB pn x := ⟨_, rfl⟩
        have HCx := hide (fun w => HC.out x w)
        rw [← hcx] at HX HCx
        clear hx hcx
        go_wp2_with fail
        refine (HCx.out _).mono ?_
        rintro e w3 ⟨rfl, hb3⟩
        have HO3 := hide (HO.out.trans (hb3.mono HO.out.size))
        replace HP := hide (HP.out.below hb3)
        replace HV := hide (HV.out.below hb3)
        clear hb3 g0 g1 g2 g3 v0 v1 v2 v3 v4 v5 v6
        obtain ⟨⟨g0, g1, g2, g3⟩, _⟩ := HP.out.four
        obtain ⟨v0, v1, v2, v3, v4, v5, v6⟩ := HV.out.seven
        cases cx with
        | false =>
         go_wp2_with fail
         go_meet
         exact ⟨by rw [HX.out]; rfl, HO3⟩
        | true =>
         by_cases hy : y = -1
         ·have by_ : (y != -1) = false := by simp [hy]
          have HY := hide (show toB pn y = true by rw [HTo.out, hy]; rfl)
          clear hy
          go_wp2_with fail
          go_meet
          exact ⟨by rw [HX.out, HY.out]; rfl, HO3⟩
         ·have by_ : (y != -1) = true := by simpa using hy
          have HY := hide (show toB pn y = comesB pn y by rw [HTo.out, decide_eq_false hy]; rfl)
          clear hy
          go_wp2_with fail
          refine (HC.out _ _).mono ?_
          rintro e w4 ⟨rfl, hb4⟩
          have HO4 := hide (HO3.out.trans (hb4.mono HO3.out.size))
          go_wp2_with fail
          go_meet
          exact ⟨by rw [HX.out, HY.out]; simp, HO4⟩
      case rest =>
       obtain ⟨rfl, HO9⟩ := hcut
       cases hz : (toB pn x && toB pn y) with
       | true =>
        have HQ9 := hide (HQ.out.trans (if_pos hz))
        clear hz
        go_wp2_with fail
        go_ret
        exact ⟨by rw [HQ9.out]; rfl, HO9.out⟩
       | false =>
        have HQ9 := hide (HQ.out.trans (if_neg (by rw [hz]; simp)))
        clear hz
        go_wp2_with fail
        go_ret
        exact ⟨by rw [HQ9.out]; rfl, HO9.out⟩
set_option maxRecDepth 100000 in
set_option maxHeartbeats 1600000 in
theorem refName_c (s : ByteArray) (w : World) (hs : s.size ≤ 9223372036854775807) :
 Calls Tryz.prog 79 #[.string s] w fun e w' => e = .returned (.bool (nameB s)) ∧ ∃ n, w' = w.drewN n := by
 go_enter Tryz.func79, Tryz.ntmps79
 go_wp2
 go_loopw [3, 4, 5] (fun i _ _ wr => ∃ k : Nat, k ≤ s.size ∧ i = .int .i64 k ∧ Hid (∀ j, (hj : j < s.size) → j < k → okC s[j] = true ∧ (j = 0 → 97 ≤ s[j].toNat)) ∧ Hid (∃ n, wr = w.drewN n)) (fun i _ _ _ => s.size - (intOf i).toNat)
 case atStart => exact ⟨0, Nat.zero_le _, rfl, hide (fun j hj h => by omega), hide ⟨0, rfl⟩⟩
 case round =>
  obtain ⟨k, hk, rfl, hall, hw⟩ := hrel
  by_cases hlt : k < s.size
  ·have HF := hide (fun h => name_no hlt (okC_f h))
   have HT := hide (show (97 ≤ s[k].toNat ∧ s[k].toNat ≤ 122 ∨ 48 ≤ s[k].toNat ∧ s[k].toNat ≤ 57) → okC s[k] = true from okC_t)
   have H0 := hide (show k = 0 → s[k].toNat < 97 → nameB s = false from fun h h' => by subst h; exact name_first (by omega) h')
   have hb : s[k].toNat < 256 := UInt8.toNat_lt _
   have j1 : (0 : Int) ≤ (k : Int) := by omega
   have j2 : (k : Int) < (s.size : Int) := by omega
   go_upto_region 4 with fail
   obtain ⟨nw, rfl⟩ := hw.out
   clear hw
   cases p1 : decide ((97 : Int) ≤ (s[k].toNat : Int))
   all_goals cases p2 : decide ((s[k].toNat : Int) ≤ 122)
   all_goals cases p3 : decide ((48 : Int) ≤ (s[k].toNat : Int))
   all_goals cases p4 : decide ((s[k].toNat : Int) ≤ 57)
   all_goals
    have q1 := p1
    have q2 := p2
    have q3 := p3
    have q4 := p4
    simp only [decide_eq_true_eq, decide_eq_false_iff_not] at q1 q2 q3 q4
   all_goals first
    | (exfalso; omega)
    | (go_quiet (fail)
       go_wp2
       all_goals first
        | (go_ret
           first
            | (have hq := HF.out (by omega)
               exact ⟨by rw [hq]; rfl, _, rfl⟩)
            | (have hk0 : ((k : Int) == 0) = true := by assumption
               have hq := H0.out (by simpa using hk0) (by omega)
               exact ⟨by rw [hq]; rfl, _, rfl⟩))
        | (go_roundw
           case rel => exact ⟨k + 1, by omega, by go_num, hide (fun j hj h => by
            rcases Nat.lt_or_ge j k with hjk | hjk
            ·exact hall.out j hj hjk
            ·obtain rfl : j = k := by omega
             refine ⟨HT.out (by omega), fun h0 => ?_⟩
             first
              | omega
              | (exfalso
                 have hk0 : ((j : Int) == 0) = false := by assumption
                 subst h0
                 cases hk0)), hide ⟨_, rfl⟩⟩
           case measure => simp [intOf]; omega))
  ·obtain rfl : k = s.size := by omega
   obtain ⟨nw, rfl⟩ := hw.out
   clear hw
   have HE := hide (show nameB s = (decide (0 < s.size) && decide (s.size < 17)) from by
    by_cases h0 : s.size = 0
    ·rw [name_size (Or.inl h0), h0]; rfl
    ·by_cases h16 : 16 < s.size
     ·rw [name_size (Or.inr h16)]
      have : decide (s.size < 17) = false := by simp; omega
      rw [this]; simp
     ·rw [name_yes (by omega) (by omega) ((hall.out 0 (by omega) (by omega)).2 rfl) (fun j hj => (hall.out j hj hj).1)]
      have h1 : decide (0 < s.size) = true := by simp; omega
      have h2 : decide (s.size < 17) = true := by simp; omega
      rw [h1, h2]; rfl)
   cases p1 : decide (0 < s.size)
   all_goals cases p2 : decide (s.size < 17)
   all_goals
    rw [p1, p2] at HE
    have p3 : decide ((0 : Int) < (s.size : Int)) = decide (0 < s.size) := by simp
    have p4 : decide ((s.size : Int) < 17) = decide (s.size < 17) := by
     rw [decide_eq_decide]; omega
    rw [p1] at p3
    rw [p2] at p4
    have d1 : decide ((s.size : Int) < (s.size : Int)) = false := by simp
    have d2 : decide (s.size < s.size) = false := by simp
    clear hall
    go_wp2
    go_ret
    exact ⟨by rw [HE.out]; rfl, nw, rfl⟩
end Go.Proofs.YtaioaojfdngfdaaGreatDoor
