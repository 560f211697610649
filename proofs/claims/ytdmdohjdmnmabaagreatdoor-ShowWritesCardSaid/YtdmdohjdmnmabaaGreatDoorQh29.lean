/- Scripts, by the program: what is wrong of an op. Conditions: those of each theorem. -/
import Derived.Test.YtdmdohjdmnmabaaGreatDoorQh26
import Derived.Deep.RegionWith
namespace Go.Proofs.YtdmdohjdmnmabaaGreatDoor
open Go.RowKit
set_option linter.unusedVariables false
set_option linter.unusedSimpArgs false

set_option maxRecDepth 100000 in
set_option maxHeartbeats 6400000 in
theorem op_c (s : ByteArray) (d j : Int) (PA : Option Addr) (pn pc : Nat) (k : Int) (t : ByteArray) (n gt : Int) (A : Option Addr) (l : List ArmM) (c : Nat) (x y : Int) (w : World)
 (hr : Rd w NoBlk A (flat encArm l)) (hn : l.length ≤ maxLen) (ht : t.size ≤ 9223372036854775807) (hsz : ∀ a ∈ l, a.pat.size ≤ 9223372036854775807) :
 Calls Tryz.prog 85 #[.agg #[.string s, .int .i64 d, .int .i64 j, .slice PA pn pc], .agg #[.int .i64 k, .string t, .int .i64 n, .int .i64 gt, .slice A l.length c, .int .i64 x, .int .i64 y]] w fun e w' => e = .returned (.int .i64 (opE pn ⟨k, t, n, gt, l, x, y⟩)) ∧ Only NoBlk w w' := by
 have HE := hide (show opE pn ⟨k, t, n, gt, l, x, y⟩ = if k < 1 ∨ 6 < k then 11 else if bareB ⟨k, t, n, gt, l, x, y⟩ = false then 2 else if k = 1 then (if t.size = 0 then 9 else if 256 < t.size then 4 else 0)
  else if k = 2 then expectE pn ⟨k, t, n, gt, l, x, y⟩ else if k = 3 then (if comesB pn gt = true then 0 else 13) else if k = 4 then (if tickB 0 n = true then 0 else 12) else 0 from rfl)
 have HX := hide (fun (w' : World) (h : Only NoBlk w w') => expect_c s d j PA pn pc k t n gt A l c x y w' (hr.only h (fun _ h => h)) hn hsz)
 have HC := hide (fun (w' : World) => comes_c s d j PA pn pc gt w')
 have HSm := hide (fun (w' : World) (h : Only NoBlk w w') => sameOp_c k t n gt A l c x y w' (hr.only h (fun _ h => h)) hn)
 have HBr := hide (fun (w' : World) => bare_c k t n gt A l.length c x y w')
 obtain ⟨B, hB0⟩ : ∃ B, B = bareV k t n gt A l.length c x y := ⟨_, rfl⟩
 obtain ⟨m, hm⟩ : ∃ m, m = l.length := ⟨_, rfl⟩
 rw [← hB0] at HSm HBr
 rw [← hm] at HX HSm HBr ⊢
 obtain ⟨W, hW⟩ : ∃ W, W = (w.alloc (.cells #[.string s, .int .i64 d, .int .i64 j, .slice PA pn pc] 24)).alloc (.cells #[.int .i64 k, .string t, .int .i64 n, .int .i64 gt, .slice A m c, .int .i64 x, .int .i64 y] 37) := ⟨_, rfl⟩
 have hB : Below w.heap.size w W := by rw [hW]; exact (below_alloc _ _).alloc (by simp) _
 have HO := hide (Only.of_below hB NoBlk)
 have HP := hide (show Blk W w.heap.size 24 #[.string s, .int .i64 d, .int .i64 j, .slice PA pn pc] by rw [hW]; exact (Blk.new w 24 _).alloc _)
 have HV := hide (show Blk W (w.heap.size + 1) 37 #[.int .i64 k, .string t, .int .i64 n, .int .i64 gt, .slice A m c, .int .i64 x, .int .i64 y] by rw [hW]; exact Blk.new' (by simp))
 have HW := hide hW
 clear hB hW hr hn hsz hm hB0
 go_enter Tryz.func85, Tryz.ntmps85
 go_upto_region 1 with fail
 change Code.wp _ _ _ _ ((w.alloc (.cells #[.string s, .int .i64 d, .int .i64 j, .slice PA pn pc] 24)).alloc (.cells #[.int .i64 k, .string t, .int .i64 n, .int .i64 gt, .slice A m c, .int .i64 x, .int .i64 y] 37))
 rw [← HW.out]
 obtain ⟨v0, v1, v2, v3, v4, v5, v6⟩ := HV.out.seven
 by_cases hk1 : k < 1
 ·have d1 : decide (k < 1) = true := by simp [hk1]
  have HQ := hide (HE.out.trans (if_pos (Or.inl hk1)))
  clear hk1
  go_wp2_with fail
  go_ret
  exact ⟨by rw [HQ.out]; rfl, HO.out⟩
 ·have d1 : decide (k < 1) = false := by simp; omega
  by_cases hk6 : 6 < k
  ·have d2 : decide (6 < k) = true := by simp [hk6]
   have HQ := hide (HE.out.trans (if_pos (Or.inr hk6)))
   clear hk1 hk6
   go_wp2_with fail
   go_ret
   exact ⟨by rw [HQ.out]; rfl, HO.out⟩
  ·have d2 : decide (6 < k) = false := by simp; omega
   replace HE := hide (HE.out.trans (if_neg (by omega)))
   clear hk1 hk6
   go_upto_region 3 with fail
   go_cut [14] from 15 to 19 (fun v wx => v = .bool (!bareB ⟨k, t, n, gt, l, x, y⟩) ∧ Hid (Only NoBlk w wx) ∧ Hid (Blk wx w.heap.size 24 #[.string s, .int .i64 d, .int .i64 j, .slice PA pn pc]) ∧ Hid (Blk wx (w.heap.size + 1) 37 #[.int .i64 k, .string t, .int .i64 n, .int .i64 gt, .slice A m c, .int .i64 x, .int .i64 y]))
   case first =>
    go_region_with (first
     | (go_at_call 111
        refine (HBr.out _).mono ?_
        rintro e w2 ⟨rfl, hb2⟩
        have HO2 := hide (onlyBox HO.out.drew hb2)
        have HP2 := hide (HP.out.drew.below hb2)
        have HV2 := hide (HV.out.drew.below hb2)
        clear hb2
        obtain ⟨z0, z1, z2, z3, z4, z5, z6⟩ := HV2.out.seven)
     | (go_at_call 110
        refine (HSm.out _ HO2.out).mono ?_
        rintro e w3 ⟨rfl, hb3⟩
        have HO3 := hide (onlyBox HO2.out hb3)
        have HP3 := hide (HP2.out.below hb3)
        have HV3 := hide (HV2.out.below hb3)
        clear hb3))
    all_goals
     go_wp2_with fail
     go_meet
     exact ⟨rfl, HO3, HP3, HV3⟩
   case rest =>
    obtain ⟨rfl, HOc, HPc, HVc⟩ := hcut
    clear HO HP HV v0 v1 v2 v3 v4 v5 v6 d1 d2
    obtain ⟨v0, v1, v2, v3, v4, v5, v6⟩ := HVc.out.seven
    obtain ⟨⟨g0, g1, g2, g3⟩, _⟩ := HPc.out.four
    obtain ⟨z, hz⟩ : ∃ z, z = !bareB ⟨k, t, n, gt, l, x, y⟩ := ⟨_, rfl⟩
    rw [← hz]
    cases z with
    | true =>
     have HQ := hide (HE.out.trans (if_pos (by simpa using hz.symm)))
     clear hz
     go_wp2_with fail
     go_ret
     exact ⟨by rw [HQ.out]; rfl, HOc.out⟩
    | false =>
     replace HE := hide (HE.out.trans (if_neg (by intro h; rw [h] at hz; cases hz)))
     clear hz
     by_cases h1 : k = 1
     ·subst h1
      replace HE := hide (HE.out.trans (if_pos rfl))
      by_cases ht0 : t.size = 0
      ·have HQ := hide (HE.out.trans (if_pos ht0))
       obtain rfl := str_nil ht0
       clear ht0 ht
       go_wp2_with fail
       go_ret
       exact ⟨by rw [HQ.out]; rfl, HOc.out⟩
      ·have q1 := str_some ht0
       replace HE := hide (HE.out.trans (if_neg ht0))
       by_cases h256 : 256 < t.size
       ·have e1 : decide ((t.size : Int) > 256) = true := by simp; omega
        have e2 : decide (256 < t.size) = true := by simp; exact h256
        have HQ := hide (HE.out.trans (if_pos h256))
        clear ht0 h256
        go_wp2_with fail
        go_ret
        exact ⟨by rw [HQ.out]; rfl, HOc.out⟩
       ·have e1 : decide ((t.size : Int) > 256) = false := by simp; omega
        have e2 : decide (256 < t.size) = false := by simp; omega
        have HQ := hide (HE.out.trans (if_neg h256))
        clear ht0 h256
        go_wp2_with fail
        go_ret
        exact ⟨by rw [HQ.out]; rfl, HOc.out⟩
     ·have b1 : (k == 1) = false := by simp [h1]
      replace HE := hide (HE.out.trans (if_neg h1))
      clear h1
      by_cases h2 : k = 2
      ·subst h2
       have HQ := hide (HE.out.trans (if_pos rfl))
       go_wp2_with fail
       refine (HX.out _ HOc.out).mono ?_
       rintro e w5 ⟨rfl, ho5⟩
       go_wp2_with fail
       go_ret
       exact ⟨by rw [HQ.out]; rfl, HOc.out.trans ho5⟩
      ·have b2 : (k == 2) = false := by simp [h2]
       replace HE := hide (HE.out.trans (if_neg h2))
       clear h2
       by_cases h3 : k = 3
       ·subst h3
        replace HE := hide (HE.out.trans (if_pos rfl))
        cases hc : comesB pn gt with
        | true =>
         rw [hc] at HC
         have HQ := hide (HE.out.trans (if_pos hc))
         clear hc
         go_wp2_with fail
         refine (HC.out _).mono ?_
         rintro e w5 ⟨rfl, hb5⟩
         go_wp2_with fail
         go_ret
         exact ⟨by rw [HQ.out]; rfl, onlyBox HOc.out hb5⟩
        | false =>
         rw [hc] at HC
         have HQ := hide (HE.out.trans (if_neg (by rw [hc]; simp)))
         clear hc
         go_wp2_with fail
         refine (HC.out _).mono ?_
         rintro e w5 ⟨rfl, hb5⟩
         go_wp2_with fail
         go_ret
         exact ⟨by rw [HQ.out]; rfl, onlyBox HOc.out hb5⟩
       ·have b3 : (k == 3) = false := by simp [h3]
        replace HE := hide (HE.out.trans (if_neg h3))
        clear h3
        by_cases h4 : k = 4
        ·subst h4
         replace HE := hide (HE.out.trans (if_pos rfl))
         have HI := hide (fun (w' : World) => in64_c n 0 1000000000000 w')
         have HTk := hide (show tickB 0 n = (decide (0 ≤ n) && decide (n ≤ 1000000000000)) from rfl)
         obtain ⟨z, hz⟩ : ∃ z, z = (decide (0 ≤ n) && decide (n ≤ 1000000000000)) := ⟨_, rfl⟩
         rw [← hz] at HI HTk
         clear hz
         cases z with
         | true =>
          have HQ := hide (HE.out.trans (if_pos HTk.out))
          go_wp2_with fail
          refine (HI.out _).mono ?_
          rintro e w5 ⟨rfl, rfl⟩
          go_wp2_with fail
          go_ret
          exact ⟨by rw [HQ.out]; rfl, HOc.out⟩
         | false =>
          have HQ := hide (HE.out.trans (if_neg (by rw [HTk.out]; simp)))
          go_wp2_with fail
          refine (HI.out _).mono ?_
          rintro e w5 ⟨rfl, rfl⟩
          go_wp2_with fail
          go_ret
          exact ⟨by rw [HQ.out]; rfl, HOc.out⟩
        ·have b4 : (k == 4) = false := by simp [h4]
         have HQ := hide (HE.out.trans (if_neg h4))
         clear h4
         go_wp2_with fail
         go_ret
         exact ⟨by rw [HQ.out]; rfl, HOc.out⟩
end Go.Proofs.YtdmdohjdmnmabaaGreatDoor
