/- lives of the row answers true; the walk of FifoNil. Conditions: none. -/
import Derived.Test.YtmkbhejbbhikcaaFifo5
namespace Go.Proofs.Ytmkbhejbbhikcaa
open Go.RowKit
set_option linter.unusedVariables false

set_option maxHeartbeats 800000 in
theorem fifo_lives (w : World) : Calls Try.prog 54 #[] w fun e w' => e = .returned (.bool true) ∧ Only NoBlk w w' := by
  have V1 := hide (show comes 4 [] 3 = true by decide)
  have V2 := hide (show pushL 4 [] 3 = [3] by decide)
  have V3 := hide (show comes 4 [3] 1 = true by decide)
  have V4 := hide (show pushL 4 [3] 1 = [3, 1] by decide)
  have V5 := hide (show comes 4 [3, 1] 3 = false by decide)
  have V6 := hide (show pushL 4 [3, 1] 3 = [3, 1] by decide)
  have V7 := hide (show turnL [3, 1] = [1, 3] by decide)
  have V8 := hide (show (clip 4 1 1024).toNat = 4 by decide)
  go_enter Try.func54, Try.ntmps54
  go_wp2_with fail
  refine (FNew_c 4 _).mono ?_
  rintro e w1 ⟨b, nb, pb, ib, rfl, h1, ho1, hk⟩
  rw [V8.out] at h1
  have Hk := hide hk
  clear hk
  go_wp2_with fail
  refine (Push_c 3 h1).mono ?_
  rintro e w2 ⟨he, h2, ho2⟩
  rw [V1.out] at he
  rw [V2.out] at h2
  subst he
  go_wp2_with fail
  refine (Push_c 1 h2).mono ?_
  rintro e w3 ⟨he, h3, ho3⟩
  rw [V3.out] at he
  rw [V4.out] at h3
  subst he
  go_wp2_with fail
  refine (Push_c 3 h3).mono ?_
  rintro e w4 ⟨he, h4, ho4⟩
  rw [V5.out] at he
  rw [V6.out] at h4
  subst he
  go_wp2_with fail
  refine (Turn_c h4).mono ?_
  rintro e w5 ⟨he, h5, ho5⟩
  rw [V7.out] at h5
  have he' : e = .returned (.bool true) := he
  clear he
  subst he'
  go_wp2_with fail
  refine (Pop_c h5).mono ?_
  rintro e w6 ⟨he, h6, ho6⟩
  have he' : e = .returned (.tuple #[.int .i64 1, .bool true]) := he
  clear he
  subst he'
  go_wp2_with fail
  refine (Len_f h6).mono ?_
  rintro e w7 ⟨he, rfl⟩
  have he' : e = .returned (.int .i64 1) := he
  clear he
  subst he'
  go_wp2_with fail
  go_ret
  refine ⟨rfl, ?_⟩
  have ho : Only (FS b nb pb ib) w1 w6 := (((ho2.trans ho3).trans ho4).trans ho5).trans ho6
  exact ho1.fresh ho (fun i _ hi => Or.inr (Hk.out i hi))

theorem FifoNil_walk (id : Int) (w : World) : Calls Try.prog 13 #[.int .i64 id] w fun e w' => e = .returned (.bool true) ∧ Only NoBlk w w' := by
  go_enter Try.func13, Try.ntmps13
  go_wp2_with (first
    | (go_at_call 49; refine (fPop_nil _).mono ?_; rintro e w' ⟨rfl, rfl⟩)
    | (go_at_call 62; refine (fFront_nil _).mono ?_; rintro e w' ⟨rfl, rfl⟩)
    | (go_at_call 48; refine (fpush_nil _ _).mono ?_; rintro e w' ⟨rfl, rfl⟩)
    | (go_at_call 59; refine (fTurn_nil _).mono ?_; rintro e w' ⟨rfl, rfl⟩)
    | (go_at_call 51; refine (fCut_nil _ _).mono ?_; rintro e w' ⟨rfl, rfl⟩)
    | (go_at_call 63; refine (fHas_nil _ _).mono ?_; rintro e w' ⟨rfl, rfl⟩)
    | (go_at_call 50; refine (fPlace_nil _ _).mono ?_; rintro e w' ⟨rfl, rfl⟩)
    | (go_at_call 52; refine (fList_nil _).mono ?_; rintro e w' ⟨rfl, rfl⟩)
    | (go_at_call 64; refine (fLen_nil _).mono ?_; rintro e w' ⟨rfl, rfl⟩)
    | (go_at_call 56; refine (fMost_nil _).mono ?_; rintro e w' ⟨rfl, rfl⟩)
    | (go_at_call 54; refine (fifo_lives _).mono ?_; rintro e w' ⟨rfl, ho⟩))
  go_ret
  exact ⟨rfl, ho⟩
end Go.Proofs.Ytmkbhejbbhikcaa
