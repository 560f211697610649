/- turns.New. Conditions: none. -/
import Derived.Test.YtmkbhejbbhikcaaTurns3
import Derived.Test.YtmkbhejbbhikcaaTurns4
namespace Go.Proofs.Ytmkbhejbbhikcaa
open Go.RowKit
set_option linter.unusedVariables false
attribute [local go_sem ↓] Go.wp_at_zero Go.wp_at_succ

def newTS (most quantum : Int) : TS := ⟨[], newPurse most quantum, -1, 0⟩
def NewTurns (most quantum : Int) (w : World) (e : Ending) (w' : World) : Prop :=
  ∃ p : TP, e = .returned (.pointer (some ⟨p.t, 0, none⟩)) ∧ TurnsAt w' p (clip most 1 1024).toNat (newTS most quantum) ∧ Only NoBlk w w' ∧ ∀ k, p.all k → w.heap.size ≤ k
set_option maxHeartbeats 800000 in
theorem TNew_c (most quantum : Int) (w : World) : Calls Try.prog 65 #[.int .i64 most, .int .i64 quantum] w (NewTurns most quantum w) := by
  go_enter Try.func65, Try.ntmps65
  go_wp2_with (first
    | (go_at_call 47; refine (FNew_c most _).mono ?_; rintro e w1 ⟨b, nb, pb, ib, rfl, h1, ho1, hk1⟩; have R1 := hide (And.intro h1 (And.intro ho1 hk1)); clear h1 ho1 hk1)
    | (go_at_call 18; refine (New_c most quantum _).mono ?_; rintro e w2 ⟨rfl, h2, ho2, hk2⟩; have R2 := hide (And.intro h2 (And.intro ho2 hk2)); clear h2 ho2 hk2))
  go_ret
  obtain ⟨h1, ho1, hk1⟩ := R1.out
  obtain ⟨h2, ho2, hs2⟩ := R2.out
  have hlt := h1.lt
  have hsz := ho1.size
  have hal : Only NoBlk w2 (w2.alloc (.cells #[.pointer (some ⟨b, 0, none⟩), .pointer (some ⟨w1.heap.size + 1, 0, none⟩), .int .i64 (-1), .int .i64 0] 121)) := (Only.refl _ _).alloc _
  refine ⟨⟨w2.heap.size, b, nb, pb, ib, w1.heap.size + 1, w1.heap.size⟩, rfl, ⟨Blk.new _ _ _, (h1.only0 ho2).only0 hal, h2.only hal (fun h => h) (fun h => h), newPurse_ok _ _, ?_, ?_, ?_, ?_, ?_, ?_, Or.inl rfl, by simp [newTS], by simp [newTS]⟩, (ho1.trans ho2).trans hal, ?_⟩
  · simp [newTS, newPurse, zeros_len]
  · intro hf; have := hlt _ hf; dsimp only at this; omega
  · intro hf; have := hlt _ hf; dsimp only at this; omega
  · intro hf; have := hlt _ hf; dsimp only at this; omega
  · dsimp only; omega
  · dsimp only; omega
  · intro k hk
    rcases hk with rfl | rfl | rfl | hk
    · dsimp only; omega
    · dsimp only; omega
    · dsimp only; omega
    · exact hk1 k hk

def l0 : TS := ⟨[], ⟨[0, 0, 0], 2⟩, -1, 0⟩
def l1 : TS := ⟨[0], ⟨[0, 0, 0], 2⟩, -1, 0⟩
def l2 : TS := ⟨[0, 1], ⟨[0, 0, 0], 2⟩, -1, 0⟩
def l3 : TS := ⟨[1], ⟨[2, 0, 0], 2⟩, 0, 1⟩
def l4 : TS := ⟨[1, 0], ⟨[2, 0, 0], 2⟩, -1, 1⟩
def l5 : TS := ⟨[0], ⟨[2, 2, 0], 2⟩, 1, 2⟩
def l6 : TS := ⟨[0], ⟨[2, 0, 0], 2⟩, -1, 2⟩
def l7 : TS := ⟨[], ⟨[4, 0, 0], 2⟩, 0, 3⟩
def l8 : TS := ⟨[], ⟨[1, 0, 0], 2⟩, 0, 3⟩
set_option maxHeartbeats 1600000 in
theorem turns_lives (w : World) : Calls Try.prog 69 #[] w fun e w' => e = .returned (.bool true) ∧ Only NoBlk w w' := by
  have V0 := hide (show newTS 3 2 = l0 by rfl)
  have V0n := hide (show (clip 3 1 1024).toNat = 3 by decide)
  have V1 := hide (show l0.wake 3 0 = l1 by rfl)
  have V1b := hide (show l0.wakes 3 0 = true by rfl)
  have V2 := hide (show l1.wake 3 1 = l2 by rfl)
  have V2b := hide (show l1.wakes 3 1 = true by rfl)
  have V3 := hide (show l2.begin_ = l3 by rfl)
  have V3b := hide (show l2.bout = .returned (.tuple #[.int .i64 0, .bool true]) by rfl)
  have V4 := hide (show l3.pay 3 = l3 by rfl)
  have V4b := hide (show l3.can 3 = false by rfl)
  have V5 := hide (show l3.end_ 3 true = l4 by rfl)
  have V5b := hide (show l3.ends 3 true = true by rfl)
  have V6 := hide (show l4.begin_ = l5 by rfl)
  have V6b := hide (show l4.bout = .returned (.tuple #[.int .i64 1, .bool true]) by rfl)
  have V7 := hide (show l5.end_ 3 false = l6 by rfl)
  have V7b := hide (show l5.ends 3 false = true by rfl)
  have V8 := hide (show l6.begin_ = l7 by rfl)
  have V8b := hide (show l6.bout = .returned (.tuple #[.int .i64 0, .bool true]) by rfl)
  have V9 := hide (show l7.pay 3 = l8 by rfl)
  have V9b := hide (show l7.can 3 = true by rfl)
  go_enter Try.func69, Try.ntmps69
  go_wp2_with fail
  refine (TNew_c 3 2 _).mono ?_
  rintro e w0 ⟨p, rfl, h0, ho0, hk0⟩
  rw [V0.out, V0n.out] at h0
  have Hk := hide hk0
  clear hk0
  go_wp2_with fail
  refine (Wake_c 0 h0).mono ?_
  rintro e w1 ⟨he, h1, ho1⟩
  rw [V1b.out] at he
  rw [V1.out] at h1
  subst he
  go_wp2_with fail
  refine (Wake_c 1 h1).mono ?_
  rintro e w2 ⟨he, h2, ho2⟩
  rw [V2b.out] at he
  rw [V2.out] at h2
  subst he
  go_wp2_with fail
  refine (Begin_c h2 (by decide)).mono ?_
  rintro e w3 ⟨he, h3, ho3⟩
  rw [V3b.out] at he
  rw [V3.out] at h3
  subst he
  go_wp2_with fail
  refine (TPay_c 3 h3).mono ?_
  rintro e w4 ⟨he, h4, ho4⟩
  rw [V4b.out] at he
  rw [V4.out] at h4
  subst he
  go_wp2_with fail
  refine (End_c true h4).mono ?_
  rintro e w5 ⟨he, h5, ho5⟩
  rw [V5b.out] at he
  rw [V5.out] at h5
  subst he
  go_wp2_with fail
  refine (Begin_c h5 (by decide)).mono ?_
  rintro e w6 ⟨he, h6, ho6⟩
  rw [V6b.out] at he
  rw [V6.out] at h6
  subst he
  go_wp2_with fail
  refine (End_c false h6).mono ?_
  rintro e w7 ⟨he, h7, ho7⟩
  rw [V7b.out] at he
  rw [V7.out] at h7
  subst he
  go_wp2_with fail
  refine (Begin_c h7 (by decide)).mono ?_
  rintro e w8 ⟨he, h8, ho8⟩
  rw [V8b.out] at he
  rw [V8.out] at h8
  subst he
  go_wp2_with fail
  refine (TPay_c 3 h8).mono ?_
  rintro e w9 ⟨he, h9, ho9⟩
  rw [V9b.out] at he
  rw [V9.out] at h9
  subst he
  go_wp2_with fail
  refine (Done_c h9).mono ?_
  rintro e w10 ⟨he, rfl⟩
  have he' : e = .returned (.int .i64 3) := he
  clear he
  subst he'
  go_wp2_with fail
  go_ret
  refine ⟨rfl, ?_⟩
  have ho := ((((((((ho1.trans ho2).trans ho3).trans ho4).trans ho5).trans ho6).trans ho7).trans ho8).trans ho9)
  exact ho0.fresh ho (fun i _ hi => Or.inr (Hk.out i hi))
end Go.Proofs.Ytmkbhejbbhikcaa
