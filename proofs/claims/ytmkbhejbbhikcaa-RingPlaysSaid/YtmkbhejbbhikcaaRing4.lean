/- lives of the ring answers true. Conditions: none. -/
import Derived.Test.YtmkbhejbbhikcaaRing3
namespace Go.Proofs.Ytmkbhejbbhikcaa
open Go.RowKit
set_option linter.unusedVariables false
set_option maxRecDepth 100000 in
set_option maxHeartbeats 800000 in
theorem ring_lives (w : World) : Calls Try.prog 41 #[] w fun e w' => e = .returned (.bool true) ∧ Only NoBlk w w' := by
  have V0 := hide (show (clip (3 : Int) 1 4096).toNat = 3 by decide)
  have V1 := hide (show rput 3 ⟨#[]⟩ ⟨#[97, 98, 99, 100]⟩ = 3 by decide)
  have V2 := hide (show rputS 3 ⟨#[]⟩ ⟨#[97, 98, 99, 100]⟩ = ⟨#[97, 98, 99]⟩ by decide)
  have V3 := hide (show tk 2 ⟨#[97, 98, 99]⟩ = 2 by decide)
  have V4 := hide (show (⟨#[97, 98, 99]⟩ : ByteArray).extract 0 2 = ⟨#[97, 98]⟩ by decide)
  have V5 := hide (show (⟨#[97, 98, 99]⟩ : ByteArray).extract 2 (⟨#[97, 98, 99]⟩ : ByteArray).size = ⟨#[99]⟩ by decide)
  have V6 := hide (show rput 3 ⟨#[99]⟩ ⟨#[100, 101]⟩ = 2 by decide)
  have V7 := hide (show rputS 3 ⟨#[99]⟩ ⟨#[100, 101]⟩ = ⟨#[99, 100, 101]⟩ by decide)
  have V8 := hide (show pk 1 9 ⟨#[99, 100, 101]⟩ = ⟨#[100, 101]⟩ by decide)
  go_enter Try.func41, Try.ntmps41
  go_wp2_with fail
  refine (New_r 3 _).mono ?_
  rintro e w1 ⟨rfl, h1, ho1, hs1⟩
  rw [V0.out] at h1
  obtain ⟨p, hp⟩ : ∃ p, p = w.heap.size + 1 := ⟨_, rfl⟩
  obtain ⟨h, hh⟩ : ∃ h, h = w.heap.size := ⟨_, rfl⟩
  rw [← hp, ← hh] at h1
  rw [← hp]
  have hn : ∀ k, (k = p ∨ k = h) → w.heap.size ≤ k := fun k hk => by omega
  have Hn := hide hn
  have H1 := hide (And.intro h1 ho1)
  clear h1 ho1 hs1 hp hh hn
  go_wp2_with fail
  refine (Put_c ⟨#[97, 98, 99, 100]⟩ (by decide) H1.out.1).mono ?_
  rintro e w2 ⟨he, h2, ho2⟩
  rw [V1.out] at he
  rw [V2.out] at h2
  subst he
  have H2 := hide (And.intro h2 (H1.out.2.fresh ho2 (fun i _ hi => Or.inr (Hn.out i hi))))
  clear h2 ho2
  go_wp2_with fail
  refine (Take_c 2 H2.out.1).mono ?_
  rintro e w3 ⟨he, h3, ho3⟩
  rw [V3.out, V4.out] at he
  rw [V3.out, V5.out] at h3
  subst he
  have H3 := hide (And.intro h3 (H2.out.2.fresh ho3 (fun i _ hi => Or.inr (Hn.out i (Or.inl hi)))))
  clear h3 ho3
  go_wp2_with fail
  refine (Put_c ⟨#[100, 101]⟩ (by decide) H3.out.1).mono ?_
  rintro e w4 ⟨he, h4, ho4⟩
  rw [V6.out] at he
  rw [V7.out] at h4
  subst he
  have H4 := hide (And.intro h4 (H3.out.2.fresh ho4 (fun i _ hi => Or.inr (Hn.out i hi))))
  clear h4 ho4
  go_wp2_with fail
  refine (Peek_b 1 9 H4.out.1).mono ?_
  rintro e w5 ⟨he, hb5⟩
  rw [V8.out] at he
  subst he
  go_wp2_with fail
  go_ret
  exact ⟨rfl, H4.out.2.trans (Only.of_below hb5 NoBlk)⟩
theorem RingNil_walk (n : Int) (s : ByteArray) (w : World) : Calls Try.prog 11 #[.int .i64 n, .string s] w fun e w' => e = .returned (.bool true) ∧ Only NoBlk w w' := by
  go_enter Try.func11, Try.ntmps11
  go_wp2_with (first
    | (go_at_call 55; refine (At_nil _ _).mono ?_; rintro e w1 ⟨rfl, rfl⟩)
    | (go_at_call 34; refine (Put_nil _ _).mono ?_; rintro e w1 ⟨rfl, rfl⟩)
    | (go_at_call 35; refine (Take_nil _ _).mono ?_; rintro e w1 ⟨rfl, rfl⟩)
    | (go_at_call 37; refine (Peek_nil _ _ _).mono ?_; rintro e w1 ⟨rfl, rfl⟩)
    | (go_at_call 46; refine (Drop_nil _ _).mono ?_; rintro e w1 ⟨rfl, rfl⟩)
    | (go_at_call 42; refine (RLen_nil _).mono ?_; rintro e w1 ⟨rfl, rfl⟩)
    | (go_at_call 43; refine (RRoom_nil _).mono ?_; rintro e w1 ⟨rfl, rfl⟩)
    | (go_at_call 44; refine (RMost_nil _).mono ?_; rintro e w1 ⟨rfl, rfl⟩)
    | (go_at_call 36; refine (Copy_nil _).mono ?_; rintro e w1 ⟨rfl, rfl⟩)
    | (go_at_call 41; refine (ring_lives _).mono ?_; rintro e w1 ⟨rfl, ho⟩))
  go_ret
  exact ⟨rfl, ho⟩
end Go.Proofs.Ytmkbhejbbhikcaa
