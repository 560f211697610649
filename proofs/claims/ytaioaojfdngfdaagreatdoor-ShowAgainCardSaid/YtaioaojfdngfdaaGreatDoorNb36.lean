/- Scripts, by the page: what is wrong of an op, of a script, and whether it may be. Conditions: those of each theorem. -/
import Derived.Test.YtaioaojfdngfdaaGreatDoorNb35
import Derived.Test.YtaioaojfdngfdaaGreatDoorNb20
set_option linter.unusedVariables false
set_option linter.unusedSimpArgs false
namespace Go.Proofs.YtaioaojfdngfdaaGreatDoor
open Go.RowKit
set_option maxRecDepth 100000 in
set_option maxHeartbeats 12800000 in
theorem refOp_c (s : ByteArray) (d j : Int) (PA : Option Addr) (pn pc : Nat) (k : Int) (t : ByteArray) (n gt : Int) (A : Option Addr) (l : List ArmM) (c : Nat) (x y : Int) (w : World)
 (hr : Rd w NoBlk A (flat encArm l)) (hn : l.length ≤ maxLen) (ht : t.size ≤ 9223372036854775807) (hsz : ∀ a ∈ l, a.pat.size ≤ 9223372036854775807) :
 Calls Tryz.prog 80 #[.agg #[.string s, .int .i64 d, .int .i64 j, .slice PA pn pc], .agg #[.int .i64 k, .string t, .int .i64 n, .int .i64 gt, .slice A l.length c, .int .i64 x, .int .i64 y]] w fun e w' => e = .returned (.int .i64 (opE pn ⟨k, t, n, gt, l, x, y⟩)) ∧ Below w.heap.size w w' := by
 have HB := hide (fun w => refBare_c k t n gt A l c x y w)
 have HX := hide (fun (w' : World) (h : Below w.heap.size w w') => refExpect_c s d j PA pn pc k t n gt A l c x y w' (hr.below h) hn hsz)
 have HC := hide (fun (g : Int) (w' : World) => refComes_c s d j PA pn pc g w')
 have HOp := hide (show opE pn ⟨k, t, n, gt, l, x, y⟩ = if k < 1 ∨ 6 < k then 11 else if bareB ⟨k, t, n, gt, l, x, y⟩ = false then 2 else if k = 1 then (if t.size = 0 then 9 else if 256 < t.size then 4 else 0)
  else if k = 2 then expectE pn ⟨k, t, n, gt, l, x, y⟩ else if k = 3 then (if comesB pn gt = true then 0 else 13) else if k = 4 then (if tickB 0 n = true then 0 else 12) else 0 from rfl)
 obtain ⟨T, hT⟩ : ∃ T, T = opE pn ⟨k, t, n, gt, l, x, y⟩ := ⟨_, rfl⟩
 obtain ⟨B, hB⟩ : ∃ B, B = bareB ⟨k, t, n, gt, l, x, y⟩ := ⟨_, rfl⟩
 obtain ⟨X, hX⟩ : ∃ X, X = expectE pn ⟨k, t, n, gt, l, x, y⟩ := ⟨_, rfl⟩
 obtain ⟨m, hm⟩ : ∃ m, m = l.length := ⟨_, rfl⟩
 rw [← hT, ← hB, ← hX] at HOp
 rw [← hB, ← hm] at HB
 rw [← hX, ← hm] at HX
 rw [← hT, ← hm]
 obtain ⟨W, hW⟩ : ∃ W, W = (w.alloc (.cells #[.string s, .int .i64 d, .int .i64 j, .slice PA pn pc] 25)).alloc (.cells #[.int .i64 k, .string t, .int .i64 n, .int .i64 gt, .slice A m c, .int .i64 x, .int .i64 y] 92) := ⟨_, rfl⟩
 have HO := hide (show Below w.heap.size w W by rw [hW]; exact (below_alloc _ _).alloc (by simp) _)
 have HP := hide (show Blk W w.heap.size 25 #[.string s, .int .i64 d, .int .i64 j, .slice PA pn pc] by rw [hW]; exact (Blk.new w 25 _).alloc _)
 have HV := hide (show Blk W (w.heap.size + 1) 92 #[.int .i64 k, .string t, .int .i64 n, .int .i64 gt, .slice A m c, .int .i64 x, .int .i64 y] by rw [hW]; exact Blk.new' (by simp))
 have HW := hide hW
 clear hr hn hsz hT hB hX hm hW
 go_enter Tryz.func80, Tryz.ntmps80
 go_upto_region 1 with fail
 change Code.wp _ _ _ _ ((w.alloc (.cells #[.string s, .int .i64 d, .int .i64 j, .slice PA pn pc] 25)).alloc (.cells #[.int .i64 k, .string t, .int .i64 n, .int .i64 gt, .slice A m c, .int .i64 x, .int .i64 y] 92))
 rw [← HW.out]
 obtain ⟨v0, v1, v2, v3, v4, v5, v6⟩ := HV.out.seven
 by_cases h1 : k < 1
 ·have d1 : decide (k < 1) = true := by simp [h1]
  have HQ := hide (HOp.out.trans (if_pos (Or.inl h1)))
  clear h1
  go_wp2_with fail
  go_ret
  exact ⟨by rw [HQ.out]; rfl, HO.out⟩
 by_cases h6 : 6 < k
 ·have d1 : decide (k < 1) = false := by simp; omega
  have d2 : decide (6 < k) = true := by simp [h6]
  have HQ := hide (HOp.out.trans (if_pos (Or.inr h6)))
  clear h1 h6
  go_wp2_with fail
  go_ret
  exact ⟨by rw [HQ.out]; rfl, HO.out⟩
 have d1 : decide (k < 1) = false := by simp; omega
 have d2 : decide (6 < k) = false := by simp; omega
 replace HOp := hide (HOp.out.trans (if_neg (by omega)))
 cases B with
 | false =>
  have HQ := hide (HOp.out.trans (if_pos rfl))
  clear h1 h6
  go_wp2_with fail
  refine (HB.out _).mono ?_
  rintro e w2 ⟨rfl, hb2⟩
  have HO2 := hide (HO.out.trans (hb2.mono HO.out.size))
  go_wp2_with fail
  go_ret
  exact ⟨by rw [HQ.out]; rfl, HO2.out⟩
 | true =>
  replace HOp := hide (HOp.out.trans (if_neg (by simp)))
  go_wp2_with fail
  refine (HB.out _).mono ?_
  rintro e w2 ⟨rfl, hb2⟩
  have HO2 := hide (HO.out.trans (hb2.mono HO.out.size))
  replace HP := hide (HP.out.below hb2)
  replace HV := hide (HV.out.below hb2)
  clear hb2 v0 v1 v2 v3 v4 v5 v6 HB HO
  obtain ⟨⟨g0, g1, g2, g3⟩, _⟩ := HP.out.four
  obtain ⟨v0, v1, v2, v3, v4, v5, v6⟩ := HV.out.seven
  by_cases k1 : k = 1
  ·have b1 : (k == 1) = true := by simp [k1]
   have b2 : (k == 2) = false := by simp [k1]
   have b3 : (k == 3) = false := by simp [k1]
   have b4 : (k == 4) = false := by simp [k1]
   replace HOp := hide (HOp.out.trans (if_pos k1))
   clear k1 h1 h6 d1 d2
   by_cases h0 : t.size = 0
   ·have e1 := ba_nil h0
    have e2 : t.toList.isEmpty = true := by rw [e1]; rfl
    have HQ := hide (HOp.out.trans (if_pos h0))
    clear h0
    go_wp2_with fail
    go_ret
    exact ⟨by rw [HQ.out]; rfl, HO2.out⟩
   ·have e2 := ba_some h0
    by_cases h9 : 256 < t.size
    ·have d3 : decide ((256 : Int) < (t.size : Int)) = true := by simp; omega
     have d4 : decide (256 < t.size) = true := by simp; omega
     have HQ := hide (HOp.out.trans ((if_neg h0).trans (if_pos h9)))
     clear h0 h9
     go_wp2_with fail
     go_ret
     exact ⟨by rw [HQ.out]; rfl, HO2.out⟩
    ·have d3 : decide ((256 : Int) < (t.size : Int)) = false := by simp; omega
     have d4 : decide (256 < t.size) = false := by simp; omega
     have HQ := hide (HOp.out.trans ((if_neg h0).trans (if_neg h9)))
     clear h0 h9
     go_wp2_with fail
     go_ret
     exact ⟨by rw [HQ.out]; rfl, HO2.out⟩
  have b1 : (k == 1) = false := by simp [k1]
  replace HOp := hide (HOp.out.trans (if_neg k1))
  by_cases k2 : k = 2
  ·have b2 : (k == 2) = true := by simp [k2]
   have HQ := hide (HOp.out.trans (if_pos k2))
   clear k1 k2 h1 h6 d1 d2
   go_wp2_with fail
   refine (HX.out _ HO2.out).mono ?_
   rintro e w3 ⟨rfl, hb3⟩
   have HO3 := hide (HO2.out.trans (hb3.mono HO2.out.size))
   go_wp2_with fail
   go_ret
   exact ⟨by rw [HQ.out]; rfl, HO3.out⟩
  have b2 : (k == 2) = false := by simp [k2]
  replace HOp := hide (HOp.out.trans (if_neg k2))
  by_cases k3 : k = 3
  ·have b3 : (k == 3) = true := by simp [k3]
   have b4 : (k == 4) = false := by simp [k3]
   replace HOp := hide (HOp.out.trans (if_pos k3))
   have HCg := hide (fun w => HC.out gt w)
   obtain ⟨cm, hcm⟩ : ∃ cm, cm = comesB pn gt := ⟨_, rfl⟩
   rw [← hcm] at HOp HCg
   clear k1 k2 k3 h1 h6 d1 d2 hcm
   cases cm with
   | true =>
    have HQ := hide (HOp.out.trans (if_pos rfl))
    go_wp2_with fail
    refine (HCg.out _).mono ?_
    rintro e w3 ⟨rfl, hb3⟩
    have HO3 := hide (HO2.out.trans (hb3.mono HO2.out.size))
    replace v0 := bkeep hb3 v0
    clear hb3
    go_wp2_with fail
    go_ret
    exact ⟨by rw [HQ.out]; rfl, HO3.out⟩
   | false =>
    have HQ := hide (HOp.out.trans (if_neg (by simp)))
    go_wp2_with fail
    refine (HCg.out _).mono ?_
    rintro e w3 ⟨rfl, hb3⟩
    have HO3 := hide (HO2.out.trans (hb3.mono HO2.out.size))
    replace v0 := bkeep hb3 v0
    clear hb3
    go_wp2_with fail
    go_ret
    exact ⟨by rw [HQ.out]; rfl, HO3.out⟩
  have b3 : (k == 3) = false := by simp [k3]
  replace HOp := hide (HOp.out.trans (if_neg k3))
  by_cases k4 : k = 4
  ·have b4 : (k == 4) = true := by simp [k4]
   replace HOp := hide (HOp.out.trans (if_pos k4))
   clear k1 k2 k3 k4 h1 h6 d1 d2
   by_cases n0 : n < 0
   ·have d3 : decide (n < 0) = true := by simp [n0]
    have HQ := hide (HOp.out.trans (if_neg (by unfold tickB; simp; omega)))
    clear n0
    go_wp2_with fail
    go_ret
    exact ⟨by rw [HQ.out]; rfl, HO2.out⟩
   ·have d3 : decide (n < 0) = false := by simp; omega
    by_cases n1 : 1000000000000 < n
    ·have d4 : decide (1000000000000 < n) = true := by simp [n1]
     have HQ := hide (HOp.out.trans (if_neg (by unfold tickB; simp; omega)))
     clear n0 n1
     go_wp2_with fail
     go_ret
     exact ⟨by rw [HQ.out]; rfl, HO2.out⟩
    ·have d4 : decide (1000000000000 < n) = false := by simp; omega
     have HQ := hide (HOp.out.trans (if_pos (by unfold tickB; simp; omega)))
     clear n0 n1
     go_wp2_with fail
     go_ret
     exact ⟨by rw [HQ.out]; rfl, HO2.out⟩
  ·have b4 : (k == 4) = false := by simp [k4]
   have HQ := hide (HOp.out.trans (if_neg k4))
   clear k1 k2 k3 k4 h1 h6 d1 d2
   go_wp2_with fail
   go_ret
   exact ⟨by rw [HQ.out]; rfl, HO2.out⟩
set_option maxRecDepth 100000 in
set_option maxHeartbeats 12800000 in
theorem refWrongP_c (s : ByteArray) (d j : Int) (PA : Option Addr) (pc : Nat) (L : List OpV) (w : World) (hr : OpsRd w NoBlk PA L) (hn : L.length ≤ maxLen) (hs : s.size ≤ 9223372036854775807) (hsz : ∀ v ∈ L, OpSz v) :
 Calls Tryz.prog 46 #[.agg #[.string s, .int .i64 d, .int .i64 j, .slice PA L.length pc]] w fun e w' => e = .returned (.tuple #[.int .i64 (wrongM (progM s d j L)).1, .int .i64 (wrongM (progM s d j L)).2]) ∧ Below w.heap.size w w' := by
 have hn' : L.length ≤ 9223372036854775807 := hn
 have HH := hide (show headE (progM s d j L) = if nameB s = false then 10 else if ((nevB d || tickB 1 d) && decide (0 ≤ j) && decide (j ≤ 1000)) = false then 12 else if 200 < L.length then 4 else 0 by unfold headE progM; simp only [List.length_map])
 have HN := hide (fun (w' : World) => refName_c s w' hs)
 have HOp := hide (fun (i : Nat) (hi : i < L.length) (w' : World) (h : Below w.heap.size w w') => refOp_c s d j PA L.length pc (opAt L i).o.kind (opAt L i).o.text (opAt L i).o.n (opAt L i).o.to (opAt L i).A (opAt L i).o.arms (opAt L i).c (opAt L i).o.onT (opAt L i).o.onE w' ((hr.2 _ (opAt_mem hi)).below h) (hsz _ (opAt_mem hi)).2.1 (hsz _ (opAt_mem hi)).1 (hsz _ (opAt_mem hi)).2.2)
 have hmap : ∀ i, i < L.length → ((L.map (·.o)).map (opE L.length)).getD i 0 = opE L.length (opAt L i).o := by
  intro i hi
  rw [List.map_map]
  exact map_getD _ L _ i hi
 have HF1 := hide (fun (h0 : headE (progM s d j L) = 0) (i : Nat) (hi : i < L.length) (h : ∀ q, q < i → opE L.length (opAt L q).o = 0) (hne : opE L.length (opAt L i).o ≠ 0) => (show wrongM (progM s d j L) = ((i : Int), opE L.length (opAt L i).o) from by
  unfold wrongM
  rw [h0, if_neg (by simp)]
  unfold progM
  simp only [List.length_map]
  rw [firstAt_take (k := i) (fun q hq => by rw [hmap q (by omega)]; exact h q hq) (by simpa using hi) (by rw [hmap i hi]; exact hne), hmap i hi]
  simp))
 have HF2 := hide (fun (h0 : headE (progM s d j L) = 0) (h : ∀ q, q < L.length → opE L.length (opAt L q).o = 0) => (show wrongM (progM s d j L) = (0, 0) from by
  unfold wrongM
  rw [h0, if_neg (by simp)]
  unfold progM
  simp only [List.length_map]
  exact firstAt_zero (fun q hq => by rw [hmap q (by simpa using hq)]; exact h q (by simpa using hq))))
 have HR := hide (fun (w' : World) (h : Below w.heap.size w w') (i : Nat) (hi : i < L.length) => op_cells (hr.1.below h) i hi)
 obtain ⟨n, hm⟩ : ∃ n, n = L.length := ⟨_, rfl⟩
 rw [← hm] at hn' HH HOp HF1 HF2 HR ⊢
 have HM := hide hm
 obtain ⟨P, hP⟩ : ∃ P, P = progM s d j L := ⟨_, rfl⟩
 rw [← hP] at HH HF1 HF2 ⊢
 obtain ⟨W, hW⟩ : ∃ W, W = w.alloc (.cells #[.string s, .int .i64 d, .int .i64 j, .slice PA n pc] 25) := ⟨_, rfl⟩
 have HO := hide (show Below w.heap.size w W by rw [hW]; exact below_alloc _ _)
 have HP := hide (show Blk W w.heap.size 25 #[.string s, .int .i64 d, .int .i64 j, .slice PA n pc] by rw [hW]; exact Blk.new w 25 _)
 have HW := hide hW
 clear hW hr hn hsz hm hs hmap hP
 go_enter Tryz.func46, Tryz.ntmps46
 go_upto_region 1 with fail
 change Code.wp _ _ _ _ (w.alloc (.cells #[.string s, .int .i64 d, .int .i64 j, .slice PA n pc] 25))
 rw [← HW.out]
 obtain ⟨⟨g0, g1, g2, g3⟩, _⟩ := HP.out.four
 cases hnm : nameB s with
 | false =>
  rw [hnm] at HN
  have HQ := hide (wrong_head (HH.out.trans (if_pos hnm)) (by decide))
  clear hnm
  go_wp2_with fail
  refine (HN.out _).mono ?_
  rintro e w2 ⟨rfl, nw, rfl⟩
  go_wp2_with fail
  refine bodyPost_ret (v := .tuple #[.int .i64 (-1), .int .i64 10]) (by simp [results, Tryz.results46, go_sem]) rfl ?_
  exact ⟨by rw [HQ.out], below_drN HO.out _⟩
 | true =>
  rw [hnm] at HN
  replace HH := hide (HH.out.trans (if_neg (by rw [hnm]; simp)))
  clear hnm
  go_wp2_with fail
  refine (HN.out _).mono ?_
  rintro e w2 ⟨rfl, nw, hw2⟩
  replace HO := hide (show Below w.heap.size w w2 by rw [hw2]; exact below_drN HO.out _)
  replace HP := hide (show Blk w2 w.heap.size 25 #[.string s, .int .i64 d, .int .i64 j, .slice PA n pc] by rw [hw2]; exact HP.out.drewN _)
  clear hw2 g0 g1 g2 g3 HN HW
  obtain ⟨⟨g0, g1, g2, g3⟩, _⟩ := HP.out.four
  go_upto_region 3 with fail
  go_cut [32] from 10 to 31 (fun v wx => v = .bool (!((nevB d || tickB 1 d) && decide (0 ≤ j) && decide (j ≤ 1000))) ∧ w2 = wx)
  case first =>
   have hcase : ∀ b1 b2 b3, b1 = !(nevB d || tickB 1 d) → b2 = decide (j < 0) → b3 = decide (1000 < j) → (!((nevB d || tickB 1 d) && decide (0 ≤ j) && decide (j ≤ 1000))) = (b1 || b2 || b3) := by
    intro b1 b2 b3 h1 h2 h3
    subst h1 h2 h3
    have e1 : decide (0 ≤ j) = !decide (j < 0) := by rw [Bool.eq_iff_iff]; simp
    have e2 : decide (j ≤ 1000) = !decide (1000 < j) := by rw [Bool.eq_iff_iff]; simp
    rw [e1, e2]
    cases (nevB d || tickB 1 d) <;> cases decide (j < 0) <;> cases decide (1000 < j) <;> rfl
   have HCase := hide hcase
   clear hcase
   cases h2 : decide (j < 0)
   all_goals cases h3 : decide (1000 < j)
   all_goals
    by_cases hnv : d = 9223372036854775807
    ·subst hnv
     have HQ := hide (HCase.out false _ _ rfl h2.symm h3.symm)
     go_wp2_with fail
     go_meet
     exact ⟨by rw [HQ.out]; rfl, rfl⟩
    ·have hnb : (d != 9223372036854775807) = true := by simpa using hnv
     have HT := hide (show (!(nevB d || tickB 1 d)) = (decide (d < 1) || decide (1000000000000 < d)) by
      unfold nevB tickB
      rw [decide_eq_false hnv]
      by_cases h1 : d < 1
      ·simp [h1] <;> omega
      ·by_cases h2 : 1000000000000 < d
       ·simp [h1, h2]
       ·simp [h1, h2] <;> omega)
     clear hnv
     cases h4 : decide (d < 1)
     all_goals cases h5 : decide (1000000000000 < d)
     all_goals
      have HQ := hide (HCase.out _ _ _ (by rw [HT.out, h4, h5]) h2.symm h3.symm)
      go_wp2_with fail
      go_meet
      exact ⟨by rw [HQ.out]; rfl, rfl⟩
  case rest =>
   obtain ⟨rfl, rfl⟩ := hcut
   obtain ⟨z, hz⟩ : ∃ z, z = !((nevB d || tickB 1 d) && decide (0 ≤ j) && decide (j ≤ 1000)) := ⟨_, rfl⟩
   rw [← hz]
   cases z with
   | true =>
    have HQ := hide (wrong_head (HH.out.trans (if_pos (by revert hz; cases ((nevB d || tickB 1 d) && decide (0 ≤ j) && decide (j ≤ 1000)) <;> simp))) (by decide))
    clear hz
    go_wp2_with fail
    refine bodyPost_ret (v := .tuple #[.int .i64 (-1), .int .i64 12]) (by simp [results, Tryz.results46, go_sem]) rfl ?_
    exact ⟨by rw [HQ.out], HO.out⟩
   | false =>
    replace HH := hide (HH.out.trans (if_neg (by intro h; rw [h] at hz; cases hz)))
    clear hz
    by_cases h8 : 200 < n
    ·have d1 : decide ((200 : Int) < (n : Int)) = true := by simp; omega
     have d2 : decide (200 < n) = true := by simp; exact h8
     have HQ := hide (wrong_head (HH.out.trans (if_pos h8)) (by decide))
     clear h8
     go_wp2_with fail
     refine bodyPost_ret (v := .tuple #[.int .i64 (-1), .int .i64 4]) (by simp [results, Tryz.results46, go_sem]) rfl ?_
     exact ⟨by rw [HQ.out], HO.out⟩
    ·have d1 : decide ((200 : Int) < (n : Int)) = false := by simp; omega
     have d2 : decide (200 < n) = false := by simp; omega
     replace HH := hide (HH.out.trans (if_neg h8))
     clear h8
     go_wp2_with fail
     go_loopw [4] (fun i wr => ∃ q : Nat, q ≤ n ∧ i = .int .i64 q ∧ Hid (∀ i, i < q → opE n (opAt L i).o = 0) ∧ Hid (Below w.heap.size w wr) ∧ Hid (Blk wr w.heap.size 25 #[.string s, .int .i64 d, .int .i64 j, .slice PA n pc])) (fun i _ => n - (intOf i).toNat)
     case atStart => exact ⟨0, Nat.zero_le _, rfl, hide (fun i h => by omega), HO, HP⟩
     case round =>
      clear HO HP g0 g1 g2 g3 d1 d2
      obtain ⟨q, hq, rfl, HZ, HO, HP⟩ := hrel
      obtain ⟨⟨g0, g1, g2, g3⟩, _⟩ := HP.out.four
      by_cases hlt : q < n
      ·obtain ⟨b, o, rfl, hb, r0, r1, r2, r3, r4, r5, r6⟩ := HR.out wr HO.out q hlt
       have HOpq := hide (fun (w' : World) (h : Below w.heap.size w w') => HOp.out q hlt w' h)
       have HF1q := hide (HF1.out HH.out q hlt HZ.out)
       have HZq := hide (fun (h : opE n (opAt L q).o = 0) (i : Nat) (hi : i < q + 1) => (show opE n (opAt L i).o = 0 from by
        by_cases e : i = q
        ·rw [e]; exact h
        ·exact HZ.out i (by omega)))
       obtain ⟨v, hv⟩ : ∃ v, v = opAt L q := ⟨_, rfl⟩
       rw [← hv] at r0 r1 r2 r3 r4 r5 r6 HOpq HF1q HZq
       clear hv
       obtain ⟨⟨k, t, on, gt, al, x, y⟩, vA, vc⟩ := v
       simp only at r0 r1 r2 r3 r4 r5 r6 HOpq HF1q HZq
       obtain ⟨am, ham⟩ : ∃ am, am = al.length := ⟨_, rfl⟩
       rw [← ham] at r4 HOpq
       obtain ⟨E, hE⟩ : ∃ E, E = opE n ⟨k, t, on, gt, al, x, y⟩ := ⟨_, rfl⟩
       rw [← hE] at HOpq HF1q HZq
       clear ham hE
       have j1 : (0 : Int) ≤ (q : Int) := by omega
       have j2 : (q : Int) < (n : Int) := by omega
       have d1 : decide ((q : Int) < (n : Int)) = true := by simp; exact hlt
       have d2 : decide (q < n) = true := by simp; exact hlt
       have w1 : IntKind.i64.wrap ((q : Int) + 1) = (q : Int) + 1 := IntWalk.i64_in _ (by omega)
       have hbw : b < wr.heap.size := World.block_lt_of_cell? _ _ r1
       go_upto_region 10 with fail
       go_region_held3 (fun w' => w'.cell? ⟨w.heap.size, 0, none⟩ = some (.string s) ∧ w'.cell? ⟨w.heap.size, 1, none⟩ = some (.int .i64 d) ∧ w'.cell? ⟨w.heap.size, 2, none⟩ = some (.int .i64 j) ∧ w'.cell? ⟨w.heap.size, 3, none⟩ = some (.slice (some ⟨b, o, none⟩) n pc)
        ∧ w'.cell? ⟨b, o + q * 7, none⟩ = some (.int .i64 k) ∧ w'.cell? ⟨b, o + q * 7 + 1, none⟩ = some (.string t) ∧ w'.cell? ⟨b, o + q * 7 + 2, none⟩ = some (.int .i64 on) ∧ w'.cell? ⟨b, o + q * 7 + 3, none⟩ = some (.int .i64 gt) ∧ w'.cell? ⟨b, o + q * 7 + 4, none⟩ = some (.slice vA am vc) ∧ w'.cell? ⟨b, o + q * 7 + 5, none⟩ = some (.int .i64 x) ∧ w'.cell? ⟨b, o + q * 7 + 6, none⟩ = some (.int .i64 y)) (go_keep)
        (first
          | (go_at_call 80
             refine (HOpq.out _ (below_dr HO.out)).mono ?_
             rintro e w3 ⟨rfl, hb3⟩
             have HO3 := hide ((below_dr HO.out).trans (hb3.mono HO.out.size))
             have HP3 := hide (HP.out.drew.below hb3)
             replace g0 := bkeep hb3 g0
             replace g1 := bkeep hb3 g1
             replace g2 := bkeep hb3 g2
             replace g3 := bkeep hb3 g3
             replace r0 := bkeep hb3 r0
             replace r1 := bkeep hb3 r1
             replace r2 := bkeep hb3 r2
             replace r3 := bkeep hb3 r3
             replace r4 := bkeep hb3 r4
             replace r5 := bkeep hb3 r5
             replace r6 := bkeep hb3 r6
             clear hb3))
       by_cases hE0 : E = 0
       ·have hne : (E != 0) = false := by simp [hE0]
        have HZn := hide (HZq.out hE0)
        clear hE0
        go_wp2_with fail
        go_roundw
        case rel => exact ⟨q + 1, by omega, by go_num, HZn, HO3, HP3⟩
        case measure => simp [intOf]; omega
       ·have hne : (E != 0) = true := by simpa using hE0
        have HQ := hide (HF1q.out hE0)
        clear hE0
        go_wp2_with fail
        refine bodyPost_ret (v := .tuple #[.int .i64 q, .int .i64 E]) (by simp [results, Tryz.results46, go_sem]) rfl ?_
        exact ⟨by rw [HQ.out], HO3.out⟩
      ·obtain rfl : q = n := by omega
       have d1 : decide ((q : Int) < (q : Int)) = false := by simp
       have d2 : decide (q < q) = false := by simp
       have HQ := hide (HF2.out HH.out HZ.out)
       go_wp2_with fail
       refine bodyPost_ret (v := .tuple #[.int .i64 0, .int .i64 0]) (by simp [results, Tryz.results46, go_sem]) rfl ?_
       exact ⟨by rw [HQ.out], HO.out⟩
set_option maxRecDepth 100000 in
set_option maxHeartbeats 3200000 in
theorem refGood_c (s : ByteArray) (d j : Int) (PA : Option Addr) (pc : Nat) (L : List OpV) (w : World) (hr : OpsRd w NoBlk PA L) (hn : L.length ≤ maxLen) (hs : s.size ≤ 9223372036854775807) (hsz : ∀ v ∈ L, OpSz v) :
 Calls Tryz.prog 16 #[.agg #[.string s, .int .i64 d, .int .i64 j, .slice PA L.length pc]] w fun e w' => e = .returned (.bool (goodM (progM s d j L))) ∧ Below w.heap.size w w' := by
 have HX := hide (fun (w' : World) (h : Below w.heap.size w w') => refWrongP_c s d j PA pc L w' ⟨hr.1.below h, fun v hv => (hr.2 v hv).below h⟩ hn hs hsz)
 obtain ⟨n, hm⟩ : ∃ n, n = L.length := ⟨_, rfl⟩
 have HG := hide (show goodM (progM s d j L) = decide ((wrongM (progM s d j L)).2 = 0) from rfl)
 obtain ⟨e1, e2, he⟩ : ∃ e1 e2, wrongM (progM s d j L) = (e1, e2) := ⟨_, _, rfl⟩
 rw [he] at HX HG
 rw [← hm] at HX ⊢
 simp only at HX HG
 clear hr hn hs hsz hm he
 go_enter Tryz.func16, Tryz.ntmps16
 go_wp2_with fail
 refine (HX.out _ (below_alloc _ _)).mono ?_
 rintro e w2 ⟨rfl, hb2⟩
 have HO2 := hide ((below_alloc w _).trans (hb2.mono (by simp)))
 clear hb2
 go_wp2_with fail
 go_ret
 exact ⟨by rw [HG.out]; rfl, HO2.out⟩
end Go.Proofs.YtaioaojfdngfdaaGreatDoor
