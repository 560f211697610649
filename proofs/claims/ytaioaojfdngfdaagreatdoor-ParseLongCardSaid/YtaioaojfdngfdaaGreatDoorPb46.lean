/- Scripts, by the page: what is wrong of an op that expects. Conditions: those of each theorem. -/
import Derived.Test.YtaioaojfdngfdaaGreatDoorPb27
import Derived.Test.YtaioaojfdngfdaaGreatDoorPb21
import Derived.Deep.RegionHeld3
namespace Go.Proofs.YtaioaojfdngfdaaGreatDoor
open Go.RowKit
set_option linter.unusedVariables false
set_option linter.unusedSimpArgs false

set_option maxRecDepth 100000 in
set_option maxHeartbeats 12800000 in
theorem refExpect_c (s : ByteArray) (d j : Int) (PA : Option Addr) (pn pc : Nat) (k : Int) (t : ByteArray) (n gt : Int) (A : Option Addr) (l : List ArmM) (c : Nat) (x y : Int) (w : World)
 (hr : Rd w NoBlk A (flat encArm l)) (hn : l.length ≤ maxLen) (hsz : ∀ a ∈ l, a.pat.size ≤ 9223372036854775807) :
 Calls Tryz.prog 123 #[.agg #[.string s, .int .i64 d, .int .i64 j, .slice PA pn pc], .agg #[.int .i64 k, .string t, .int .i64 n, .int .i64 gt, .slice A l.length c, .int .i64 x, .int .i64 y]] w fun e w' => e = .returned (.int .i64 (expectE pn ⟨k, t, n, gt, l, x, y⟩)) ∧ Below w.heap.size w w' := by
 have hn' : l.length ≤ 9223372036854775807 := hn
 have HE := hide (show expectE pn ⟨k, t, n, gt, l, x, y⟩ = if (nevB n || tickB 0 n) = false then 12 else if 8 < l.length then 4 else if firstE (l.map (armE pn)) ≠ 0 then firstE (l.map (armE pn)) else if (toB pn x && toB pn y) = true then 0 else 13 from rfl)
 have HPs := hide (fun (i : Nat) (hi : i < l.length) => hsz _ (List.mem_of_getElem? (armAt_some hi)))
 have HF1 := hide (fun (i : Nat) (hi : i < l.length) (h : ∀ q, q < i → armE pn (armAt l q) = 0) (hne : armE pn (armAt l i) ≠ 0) => (show firstE (l.map (armE pn)) = armE pn (armAt l i) from by
  have e := map_getD (armE pn) l ⟨⟨#[]⟩, 0⟩ i hi
  rw [firstE_take (k := i) (fun q hq => by rw [map_getD (armE pn) l ⟨⟨#[]⟩, 0⟩ q (by omega)]; exact h q hq) (by simpa using hi) (by rw [e]; exact hne), e]
  rfl))
 have HF2 := hide (fun (h : ∀ q, q < l.length → armE pn (armAt l q) = 0) => (show firstE (l.map (armE pn)) = 0 from firstE_zero (fun q hq => by rw [map_getD (armE pn) l ⟨⟨#[]⟩, 0⟩ q (by simpa using hq)]; exact h q (by simpa using hq))))
 have HC := hide (fun (g : Int) (w' : World) => refComes_c s d j PA pn pc g w')
 obtain ⟨m, hm⟩ : ∃ m, m = l.length := ⟨_, rfl⟩
 obtain ⟨T, hT⟩ : ∃ T, T = expectE pn ⟨k, t, n, gt, l, x, y⟩ := ⟨_, rfl⟩
 rw [← hT] at HE ⊢
 rw [← hm] at hn' HE HPs HF1 HF2 ⊢
 have HM := hide hm
 obtain ⟨W, hW⟩ : ∃ W, W = (w.alloc (.cells #[.string s, .int .i64 d, .int .i64 j, .slice PA pn pc] 25)).alloc (.cells #[.int .i64 k, .string t, .int .i64 n, .int .i64 gt, .slice A m c, .int .i64 x, .int .i64 y] 92) := ⟨_, rfl⟩
 have HO := hide (show Below w.heap.size w W by rw [hW]; exact (below_alloc _ _).alloc (by simp) _)
 have HP := hide (show Blk W w.heap.size 25 #[.string s, .int .i64 d, .int .i64 j, .slice PA pn pc] by rw [hW]; exact (Blk.new w 25 _).alloc _)
 have HV := hide (show Blk W (w.heap.size + 1) 92 #[.int .i64 k, .string t, .int .i64 n, .int .i64 gt, .slice A m c, .int .i64 x, .int .i64 y] by rw [hW]; exact Blk.new' (by simp))
 have HR := hide (fun (w' : World) (h : Below w.heap.size w w') (i : Nat) (hi : i < m) => arm_cells (hr.below h) i (by rw [← HM.out]; exact hi))
 have HW := hide hW
 clear hW hr hn hsz hm hT
 go_enter Tryz.func123, Tryz.ntmps123
 go_upto_region 1 with fail
 change Code.wp _ _ _ _ ((w.alloc (.cells #[.string s, .int .i64 d, .int .i64 j, .slice PA pn pc] 25)).alloc (.cells #[.int .i64 k, .string t, .int .i64 n, .int .i64 gt, .slice A m c, .int .i64 x, .int .i64 y] 92))
 rw [← HW.out]
 obtain ⟨v0, v1, v2, v3, v4, v5, v6⟩ := HV.out.seven
 go_cut [21] from 9 to 20 (fun v wx => v = .bool (!(nevB n || tickB 0 n)) ∧ W = wx)
 case first =>
  by_cases hnv : n = 9223372036854775807
  ·subst hnv
   go_wp2_with fail
   go_meet
   exact ⟨rfl, rfl⟩
  ·have hnb : (n != 9223372036854775807) = true := by simpa using hnv
   have HT := hide (show (!(nevB n || tickB 0 n)) = (decide (n < 0) || decide (1000000000000 < n)) by
    unfold nevB tickB
    rw [decide_eq_false hnv]
    by_cases h1 : n < 0
    ·simp [h1] <;> omega
    ·by_cases h2 : 1000000000000 < n
     ·simp [h1, h2]
     ·simp [h1, h2] <;> omega)
   clear hnv
   cases h1 : decide (n < 0) with
   | true =>
    rw [h1] at HT
    go_wp2_with fail
    go_meet
    exact ⟨by rw [HT.out]; rfl, rfl⟩
   | false =>
    rw [h1] at HT
    go_wp2_with fail
    go_meet
    exact ⟨by rw [HT.out]; simp, rfl⟩
 case rest =>
  obtain ⟨rfl, rfl⟩ := hcut
  obtain ⟨z, hz⟩ : ∃ z, z = !(nevB n || tickB 0 n) := ⟨_, rfl⟩
  rw [← hz]
  cases z with
  | true =>
   have HQ := hide (HE.out.trans (if_pos (by simpa using hz.symm)))
   clear hz
   go_wp2_with fail
   go_ret
   exact ⟨by rw [HQ.out]; rfl, HO.out⟩
  | false =>
   replace HE := hide (HE.out.trans (if_neg (by intro h; rw [h] at hz; cases hz)))
   clear hz
   by_cases h8 : 8 < m
   ·have d1 : decide ((8 : Int) < (m : Int)) = true := by simp; omega
    have d2 : decide (8 < m) = true := by simp; exact h8
    have HQ := hide (HE.out.trans (if_pos h8))
    go_wp2_with fail
    go_ret
    exact ⟨by rw [HQ.out]; rfl, HO.out⟩
   ·have d1 : decide ((8 : Int) < (m : Int)) = false := by simp; omega
    have d2 : decide (8 < m) = false := by simp; omega
    replace HE := hide (HE.out.trans (if_neg h8))
    clear h8
    go_wp2_with fail
    go_loopw [5] (fun i wr => ∃ q : Nat, q ≤ m ∧ i = .int .i64 q ∧ Hid (∀ i, i < q → armE pn (armAt l i) = 0) ∧ Hid (Below w.heap.size w wr) ∧ Hid (Blk wr w.heap.size 25 #[.string s, .int .i64 d, .int .i64 j, .slice PA pn pc]) ∧ Hid (Blk wr (w.heap.size + 1) 92 #[.int .i64 k, .string t, .int .i64 n, .int .i64 gt, .slice A m c, .int .i64 x, .int .i64 y])) (fun i _ => m - (intOf i).toNat)
    case atStart => exact ⟨0, Nat.zero_le _, rfl, hide (fun i h => by omega), HO, HP, HV⟩
    case round =>
     clear HO HP HV v0 v1 v2 v3 v4 v5 v6 d1 d2 HW
     obtain ⟨q, hq, rfl, HZ, HO, HP, HV⟩ := hrel
     obtain ⟨⟨g0, g1, g2, g3⟩, _⟩ := HP.out.four
     obtain ⟨v0, v1, v2, v3, v4, v5, v6⟩ := HV.out.seven
     by_cases hlt : q < m
     ·obtain ⟨b, o, rfl, hb, r0, r1⟩ := HR.out wr HO.out q hlt
      have HF1q := hide (HF1.out q hlt HZ.out)
      have HZq := hide (fun (h : armE pn (armAt l q) = 0) (i : Nat) (hi : i < q + 1) => (show armE pn (armAt l i) = 0 from by
       by_cases e : i = q
       ·rw [e]; exact h
       ·exact HZ.out i (by omega)))
      have hps := HPs.out q hlt
      obtain ⟨a, ha⟩ : ∃ a, a = armAt l q := ⟨_, rfl⟩
      rw [← ha] at r0 r1 HF1q HZq hps
      clear ha
      obtain ⟨ap, at_⟩ := a
      simp only at hps r0 r1
      have HAE := hide (show armE pn ⟨ap, at_⟩ = if 64 < ap.size then 4 else if patE ap ≠ 0 then patE ap else if comesB pn at_ = true then 0 else 13 from rfl)
      obtain ⟨E, hE⟩ : ∃ E, E = armE pn ⟨ap, at_⟩ := ⟨_, rfl⟩
      rw [← hE] at HF1q HZq HAE
      clear hE
      have j1 : (0 : Int) ≤ (q : Int) := by omega
      have j2 : (q : Int) < (m : Int) := by omega
      have d1 : decide ((q : Int) < (m : Int)) = true := by simp; exact hlt
      have d2 : decide (q < m) = true := by simp; exact hlt
      have w1 : IntKind.i64.wrap ((q : Int) + 1) = (q : Int) + 1 := IntWalk.i64_in _ (by omega)
      by_cases h64 : 64 < ap.size
      ·have e1 : decide ((64 : Int) < (ap.size : Int)) = true := by simp; omega
       have e2 : decide (64 < ap.size) = true := by simp; omega
       have HQ := hide (HAE.out.trans (if_pos h64))
       have HQ2 := hide (HE.out.trans (if_pos (by rw [HF1q.out (by rw [HQ.out]; decide), HQ.out]; decide)))
       have HQ3 := hide (show T = 4 by rw [HQ2.out, HF1q.out (by rw [HQ.out]; decide), HQ.out])
       clear h64
       go_wp2_with fail
       go_ret
       exact ⟨by rw [HQ3.out]; rfl, HO.out⟩
      ·have e1 : decide ((64 : Int) < (ap.size : Int)) = false := by simp; omega
       have e2 : decide (64 < ap.size) = false := by simp; omega
       replace HAE := hide (HAE.out.trans (if_neg h64))
       have HCk := hide (refCheck_c ap wr (by omega))
       obtain ⟨a0, b0, hck⟩ : ∃ a0 b0, checkS ap.data.toList = (a0, b0) := ⟨_, _, rfl⟩
       have hpe : patE ap = (b0 : Nat) := by unfold patE; rw [hck]
       unfold RetCheckD at HCk
       rw [hck] at HCk
       rw [hpe] at HAE
       clear h64 hck hpe
       by_cases hb0 : b0 = 0
       ·subst hb0
        replace HAE := hide (HAE.out.trans (if_neg (by simp)))
        have HCm := hide (fun w => HC.out at_ w)
        obtain ⟨cm, hcm⟩ : ∃ cm, cm = comesB pn at_ := ⟨_, rfl⟩
        rw [← hcm] at HAE HCm
        clear hcm
        go_wp2_with fail
        refine HCk.out.mono ?_
        rintro e w2 ⟨⟨CA, cn, cc, rfl⟩, hb2⟩
        have HO2 := hide (HO.out.trans (hb2.mono HO.out.size))
        have HP2 := hide (HP.out.below hb2)
        have HV2 := hide (HV.out.below hb2)
        replace r1 := bkeep hb2 r1
        clear hb2 g0 g1 g2 g3 v0 v1 v2 v3 v4 v5 v6 r0
        obtain ⟨⟨g0, g1, g2, g3⟩, _⟩ := HP2.out.four
        obtain ⟨_, _, _, _, v4, _, _⟩ := HV2.out.seven
        have hbw : b < w2.heap.size := World.block_lt_of_cell? _ _ r1
        go_upto_region 13 with fail
        go_region_held3 (fun w' => w'.cell? ⟨w.heap.size, 0, none⟩ = some (.string s) ∧ w'.cell? ⟨w.heap.size, 1, none⟩ = some (.int .i64 d) ∧ w'.cell? ⟨w.heap.size, 2, none⟩ = some (.int .i64 j) ∧ w'.cell? ⟨w.heap.size, 3, none⟩ = some (.slice PA pn pc) ∧ w'.cell? ⟨w.heap.size + 1, 4, none⟩ = some (.slice (some ⟨b, o, none⟩) m c) ∧ w'.cell? ⟨b, o + q * 2 + 1, none⟩ = some (.int .i64 at_)) (go_keep)
         (first
           | (go_at_call 124
              refine (HCm.out _).mono ?_
              rintro e w3 ⟨rfl, hb3⟩
              have HO3 := hide ((below_dr HO2.out).trans (hb3.mono HO2.out.size))
              have HP3 := hide (HP2.out.drew.below hb3)
              have HV3 := hide (HV2.out.drew.below hb3)
              replace r1 := bkeep hb3 r1
              replace g0 := bkeep hb3 g0
              replace g1 := bkeep hb3 g1
              replace g2 := bkeep hb3 g2
              replace g3 := bkeep hb3 g3
              replace v4 := bkeep hb3 v4
              clear hb3))
        cases cm with
        | true =>
         have HQ := hide (HAE.out.trans (if_pos rfl))
         go_wp2_with fail
         go_roundw
         case rel => exact ⟨q + 1, by omega, by go_num, hide (HZq.out HQ.out), HO3, HP3, HV3⟩
         case measure => simp [intOf]; omega
        | false =>
         have HQ := hide (HAE.out.trans (if_neg (by simp)))
         have HQ2 := hide (HE.out.trans (if_pos (by rw [HF1q.out (by rw [HQ.out]; decide), HQ.out]; decide)))
         have HQ3 := hide (show T = 13 by rw [HQ2.out, HF1q.out (by rw [HQ.out]; decide), HQ.out])
         go_wp2_with fail
         go_ret
         exact ⟨by rw [HQ3.out]; rfl, HO3.out⟩
       ·have hne : ((b0 : Int) != 0) = true := by simp only [bne_iff_ne, ne_eq]; omega
        have HQ := hide (HAE.out.trans (if_pos (by omega)))
        have hE0 : E ≠ 0 := by rw [HQ.out]; omega
        have HQ3 := hide (show T = (b0 : Int) by rw [(HE.out.trans (if_pos (by rw [HF1q.out hE0]; exact hE0))), HF1q.out hE0, HQ.out])
        clear hb0 hE0
        go_wp2_with fail
        refine HCk.out.mono ?_
        rintro e w2 ⟨⟨CA, cn, cc, rfl⟩, hb2⟩
        have HO2 := hide (HO.out.trans (hb2.mono HO.out.size))
        clear hb2
        go_wp2_with fail
        go_ret
        exact ⟨by rw [HQ3.out]; rfl, HO2.out⟩
     ·obtain rfl : q = m := by omega
      have d1 : decide ((q : Int) < (q : Int)) = false := by simp
      have d2 : decide (q < q) = false := by simp
      have HQ := hide (HE.out.trans (if_neg (by rw [HF2.out HZ.out]; simp)))
      clear hlt HE HF1 HF2
      have HTo := hide (show ∀ z, toB pn z = (decide (z = -1) || comesB pn z) from fun z => rfl)
      go_upto_region 15 with fail
      go_cut [85] from 64 to 84 (fun v wx => v = .bool (!(toB pn x && toB pn y)) ∧ Hid (Below w.heap.size w wx))
      case first =>
       by_cases hx : x = -1
       ·have bx : (x != -1) = false := by simp [hx]
        have HX := hide (show toB pn x = true by rw [HTo.out, hx]; rfl)
        clear hx
        by_cases hy : y = -1
        ·have by_ : (y != -1) = false := by simp [hy]
         have HY := hide (show toB pn y = true by rw [HTo.out, hy]; rfl)
         clear hy
         go_wp2_with fail
         go_meet
         exact ⟨by rw [HX.out, HY.out]; rfl, HO⟩
        ·have by_ : (y != -1) = true := by simpa using hy
         have HY := hide (show toB pn y = comesB pn y by rw [HTo.out, decide_eq_false hy]; rfl)
         clear hy
         go_wp2_with fail
         refine (HC.out _ _).mono ?_
         rintro e w3 ⟨rfl, hb3⟩
         have HO3 := hide (HO.out.trans (hb3.mono HO.out.size))
         go_wp2_with fail
         go_meet
         exact ⟨by rw [HX.out, HY.out]; simp, HO3⟩
       ·have bx : (x != -1) = true := by simpa using hx
        have HX := hide (show toB pn x = comesB pn x by rw [HTo.out, decide_eq_false hx]; rfl)
        obtain ⟨cx, hcx⟩ : ∃ cx, cx = comesB pn x := ⟨_, rfl⟩
        have HCx := hide (fun w => HC.out x w)
        rw [← hcx] at HX HCx
        clear hx hcx
        go_wp2_with fail
        refine (HCx.out _).mono ?_
        rintro e w3 ⟨rfl, hb3⟩
        have HO3 := hide (HO.out.trans (hb3.mono HO.out.size))
        replace HP := hide (HP.out.below hb3)
        replace HV := hide (HV.out.below hb3)
        clear hb3 g0 g1 g2 g3 v0 v1 v2 v3 v4 v5 v6
        obtain ⟨⟨g0, g1, g2, g3⟩, _⟩ := HP.out.four
        obtain ⟨v0, v1, v2, v3, v4, v5, v6⟩ := HV.out.seven
        cases cx with
        | false =>
         go_wp2_with fail
         go_meet
         exact ⟨by rw [HX.out]; rfl, HO3⟩
        | true =>
         by_cases hy : y = -1
         ·have by_ : (y != -1) = false := by simp [hy]
          have HY := hide (show toB pn y = true by rw [HTo.out, hy]; rfl)
          clear hy
          go_wp2_with fail
          go_meet
          exact ⟨by rw [HX.out, HY.out]; rfl, HO3⟩
         ·have by_ : (y != -1) = true := by simpa using hy
          have HY := hide (show toB pn y = comesB pn y by rw [HTo.out, decide_eq_false hy]; rfl)
          clear hy
          go_wp2_with fail
          refine (HC.out _ _).mono ?_
          rintro e w4 ⟨rfl, hb4⟩
          have HO4 := hide (HO3.out.trans (hb4.mono HO3.out.size))
          go_wp2_with fail
          go_meet
          exact ⟨by rw [HX.out, HY.out]; simp, HO4⟩
      case rest =>
       obtain ⟨rfl, HO9⟩ := hcut
       cases hz : (toB pn x && toB pn y) with
       | true =>
        have HQ9 := hide (HQ.out.trans (if_pos hz))
        clear hz
        go_wp2_with fail
        go_ret
        exact ⟨by rw [HQ9.out]; rfl, HO9.out⟩
       | false =>
        have HQ9 := hide (HQ.out.trans (if_neg (by rw [hz]; simp)))
        clear hz
        go_wp2_with fail
        go_ret
        exact ⟨by rw [HQ9.out]; rfl, HO9.out⟩
end Go.Proofs.YtaioaojfdngfdaaGreatDoor
