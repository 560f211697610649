/- lives of the purse answers true. Conditions: none. -/
import Derived.Test.YtmkbhejbbhikcaaPurse2
namespace Go.Proofs.Ytmkbhejbbhikcaa
open Go.RowKit

theorem purse_lives (w : World) : Calls Try.prog 23 #[] w fun e w' => e = .returned (.bool true) ∧ Only NoBlk w w' := by
  have v1 : ((newPurse 2 3).give 1).has 1 = 3 := by decide
  have v2 : ((newPurse 2 3).give 1).can 1 5 = false := by decide
  have v3 : ((((newPurse 2 3).give 1).pay 1 5).give 1).has 1 = 6 := by decide
  have v4 : ((((newPurse 2 3).give 1).pay 1 5).give 1).can 1 5 = true := by decide
  have v5 : (((((newPurse 2 3).give 1).pay 1 5).give 1).pay 1 5).has 1 = 1 := by decide
  have k0 := newPurse_ok 2 3
  have V1 := hide v1
  have V2 := hide v2
  have V3 := hide v3
  have V4 := hide v4
  have V5 := hide v5
  clear v1 v2 v3 v4 v5
  go_enter Try.func23, Try.ntmps23
  go_wp2_with fail
  refine (New_c 2 3 _).mono ?_
  rintro e w1 ⟨rfl, hp1, ho1, hs1⟩
  go_wp2_with fail
  refine (Give_c 1 hp1 k0).mono ?_
  rintro e w2 ⟨he, hp2, ho2⟩
  rw [V1.out] at he
  subst he
  go_wp2_with fail
  refine (Pay_c 1 5 hp2 (k0.give 1)).mono ?_
  rintro e w3 ⟨he, hp3, ho3⟩
  rw [V2.out] at he
  subst he
  go_wp2_with fail
  refine (Give_c 1 hp3 ((k0.give 1).pay 1 5)).mono ?_
  rintro e w4 ⟨he, hp4, ho4⟩
  rw [V3.out] at he
  subst he
  go_wp2_with fail
  refine (Pay_c 1 5 hp4 (((k0.give 1).pay 1 5).give 1)).mono ?_
  rintro e w5 ⟨he, hp5, ho5⟩
  rw [V4.out] at he
  subst he
  go_wp2_with fail
  refine (Has_c 1 hp5 ((((k0.give 1).pay 1 5).give 1).pay 1 5)).mono ?_
  rintro e w6 ⟨he, rfl⟩
  rw [V5.out] at he
  subst he
  go_wp2_with fail
  go_ret
  refine ⟨rfl, ?_⟩
  have ho : Only (· = w.heap.size) w1 w5 := ((ho2.trans ho3).trans ho4).trans ho5
  exact ho1.fresh ho (fun i _ hi => Or.inr (by omega))
end Go.Proofs.Ytmkbhejbbhikcaa
