/- Parts of a chain of lemmas: Pw5, PromptRoundsW. Conditions: those of each theorem. -/
import Derived.Test.YtgfogoplmokilaaPw4
namespace Go.Proofs.Ytgfogoplmokilaa
open Go.RowKit
set_option linter.unusedVariables false
set_option linter.unusedSimpArgs false

set_option maxRecDepth 100000 in
set_option maxHeartbeats 3200000 in
theorem Prompt_c (SA : Option Addr) (sc : Nat) (Ps : List PrV) (A : Option Addr) (c : Nat) (l : List Ev) (w : World) (hs : PrsRd w NoBlk SA Ps) (hsn : Ps.length ≤ maxLen) (hsz : ∀ v ∈ Ps, PrSz v) (hr : Rd w NoBlk A (flat encEv l)) (hn : l.length ≤ 1000) (hx : ∀ x ∈ l, x.s.size ≤ 100) (hlc : l.length ≤ c) :
    Calls Try.prog 46 #[.slice SA Ps.length sc, .slice A l.length c] w fun e w' => (∃ A1 c1, e = .returned (.slice A1 (promptM Ps l).length c1) ∧ Rd w' NoBlk A1 (flat encLag (promptM Ps l))) ∧ Only NoBlk w w' := by
  have HP := hide (prompt_c SA sc Ps A c l w hs hsn hsz hr hn hx hlc)
  obtain ⟨T, hT⟩ : ∃ T, T = promptM Ps l := ⟨_, rfl⟩
  obtain ⟨n, hnl⟩ : ∃ n, n = l.length := ⟨_, rfl⟩
  obtain ⟨np, hnp⟩ : ∃ np, np = Ps.length := ⟨_, rfl⟩
  rw [← hT, ← hnl, ← hnp] at HP
  rw [← hT, ← hnl, ← hnp]
  clear hs hsn hsz hr hn hx hlc hT hnl hnp
  go_enter Try.func46, Try.ntmps46
  go_wp2_with fail
  refine HP.out.mono ?_
  rintro e w2 ⟨⟨A1, c1, rfl, hr2⟩, ho2⟩
  go_wp2_with fail
  go_ret
  exact ⟨⟨A1, c1, rfl, hr2⟩, ho2⟩
theorem run_min6 (a b c d e f : Int) : ∃ m : Int, (∀ w : World, Sem.run Try.prog (Builtin.min_ #[3, 3, 3, 3, 3, 3] 3 #[.int .i64 a, .int .i64 b, .int .i64 c, .int .i64 d, .int .i64 e, .int .i64 f]) w = .ok (.int .i64 m) w) ∧ (m < 0 ↔ (a < 0 ∨ b < 0 ∨ c < 0 ∨ d < 0 ∨ e < 0 ∨ f < 0)) := by
  refine ⟨min (min (min (min (min a b) c) d) e) f, fun w => ?_, by omega⟩
  have e1 : ∀ x y : Int, (if y < x then y else x) = min x y := by
    intro x y
    rw [Int.min_def]
    split <;> split <;> omega
  simp [Builtin.min_, Builtin.min2, e1]
set_option maxRecDepth 100000 in
set_option maxHeartbeats 3200000 in
theorem rounds_c (a b c d e f : Int) (w : World) (hd : d ≤ 9223372036854775807) (he : e ≤ 9223372036854775807) (hf : f ≤ 9223372036854775807) :
    Calls Try.prog 45 #[.agg #[.int .i64 a, .int .i64 b, .int .i64 c, .int .i64 d, .int .i64 e, .int .i64 f]] w fun en w' => en = .returned (.int .i64 (roundsM ⟨a, b, c, d, e, f⟩)) ∧ Below w.heap.size w w' := by
  have HQ := hide (show roundsM ⟨a, b, c, d, e, f⟩ = if a < 0 ∨ b < 0 ∨ c < 0 ∨ d < 0 ∨ e < 0 ∨ f < 0 then 0 else max (f - max d e) 0 from rfl)
  obtain ⟨T, hT⟩ : ∃ T, T = roundsM ⟨a, b, c, d, e, f⟩ := ⟨_, rfl⟩
  rw [← hT] at HQ ⊢
  clear hT
  obtain ⟨m6, hm6, hm7⟩ := run_min6 a b c d e f
  by_cases h : a < 0 ∨ b < 0 ∨ c < 0 ∨ d < 0 ∨ e < 0 ∨ f < 0
  · have HQ2 := hide (HQ.out.trans (if_pos h))
    have d1 : decide (m6 < 0) = true := by simp; exact hm7.2 h
    clear h hm7
    go_enter Try.func45, Try.ntmps45
    go_wp2
    all_goals first
      | (exfalso; omega)
      | (go_ret; exact ⟨by rw [HQ2.out]; rfl, below_alloc _ _⟩)
  · have HQ2 := hide (HQ.out.trans (if_neg h))
    have w1 : IntKind.i64.wrap (f - max d e) = f - max d e := IntWalk.i64_in _ (by omega)
    have d1 : decide (m6 < 0) = false := by simp; have := mt hm7.1 h; omega
    clear h hm7
    go_enter Try.func45, Try.ntmps45
    go_wp2
    all_goals first
      | (exfalso; omega)
      | (go_ret; exact ⟨by rw [HQ2.out]; rfl, below_alloc _ _⟩)
set_option maxRecDepth 100000 in
set_option maxHeartbeats 3200000 in
theorem Rounds_c (a b c d e f : Int) (w : World) (hd : d ≤ 9223372036854775807) (he : e ≤ 9223372036854775807) (hf : f ≤ 9223372036854775807) :
    Calls Try.prog 27 #[.agg #[.int .i64 a, .int .i64 b, .int .i64 c, .int .i64 d, .int .i64 e, .int .i64 f]] w fun en w' => en = .returned (.int .i64 (roundsM ⟨a, b, c, d, e, f⟩)) ∧ Below w.heap.size w w' := by
  have HP := hide (fun w => rounds_c a b c d e f w hd he hf)
  obtain ⟨T, hT⟩ : ∃ T, T = roundsM ⟨a, b, c, d, e, f⟩ := ⟨_, rfl⟩
  rw [← hT] at HP ⊢
  clear hT
  go_enter Try.func27, Try.ntmps27
  go_wp2_with fail
  refine (HP.out _).mono ?_
  rintro en w2 ⟨rfl, hb2⟩
  have HB := hide ((below_alloc w _).trans (hb2.mono (by simp)))
  go_wp2_with fail
  go_ret
  exact ⟨rfl, HB.out⟩
def ev41 : List Ev := [⟨1, 0, 0, 0, ⟨#[]⟩, 0, ⟨0, 0, 0, 0, 0, 0⟩⟩, ⟨2, 0, 0, 0, ⟨#[]⟩, 0, ⟨0, 0, 0, 0, 0, 0⟩⟩, ⟨1, 0, 0, 0, ⟨#[]⟩, 0, ⟨0, 0, 0, 0, 0, 0⟩⟩, ⟨1, 0, 0, 0, ⟨#[]⟩, 0, ⟨0, 0, 0, 0, 0, 0⟩⟩, ⟨1, 0, 0, 0, ⟨#[]⟩, 0, ⟨0, 0, 0, 0, 0, 0⟩⟩,
  ⟨4, 0, 2, 0, ⟨#[111, 107]⟩, 0, ⟨0, 0, 0, 0, 0, 0⟩⟩, ⟨1, 0, 0, 0, ⟨#[]⟩, 0, ⟨0, 0, 0, 0, 0, 0⟩⟩, ⟨8, 0, 0, 0, ⟨#[]⟩, 0, ⟨0, 0, 2, 0, 2, 0⟩⟩]
def op41 : OpM := ⟨2, ⟨#[]⟩, 10, 0, [⟨⟨#[111, 107]⟩, 1⟩], -1, -1⟩
theorem lit41 (A B : Option Addr) (c d : Nat) : promptM [⟨⟨#[97]⟩, 99, 1, A, c, [⟨op41, B, d⟩]⟩] ev41 = [⟨0, 0, 2, 3, 0, 4⟩] := by rfl
set_option maxRecDepth 100000 in
set_option maxHeartbeats 6400000 in
theorem lives41_c (w : World) : Calls Try.prog 29 #[] w fun e w' => e = .returned (.bool true) ∧ Only NoBlk w w' := by
  go_enter Try.func29, Try.ntmps29
  go_wp2_with fail
  refine (Prompt_c (some ⟨w.heap.size + 1 + 1 + 1 + 1, 0, none⟩) 1 [⟨⟨#[97]⟩, 99, 1, some ⟨w.heap.size + 1, 0, none⟩, 1, [⟨op41, some ⟨w.heap.size, 0, none⟩, 1⟩]⟩] (some ⟨w.heap.size + 1 + 1 + 1 + 1 + 1, 0, none⟩) 8 ev41 _ ⟨?_, ?_⟩ (by simp [maxLen]) ?_ ?_ (by decide) (by decide) (by decide)).mono ?_
  · exact rd_blkN (t := 93) (Blk.alloc (Blk.new' (by simp)) _) (fun h => h)
  · intro v hv
    simp only [List.mem_singleton] at hv
    subst hv
    refine ⟨rd_blkN (t := 90) (Blk.alloc (Blk.alloc (Blk.alloc (Blk.alloc (Blk.new' (by simp)) _) _) _) _) (fun h => h), ?_⟩
    intro o ho
    simp only [List.mem_singleton] at ho
    subst ho
    exact rd_blkN (t := 87) (Blk.alloc (Blk.alloc (Blk.alloc (Blk.alloc (Blk.alloc (Blk.new' rfl) _) _) _) _) _) (fun h => h)
  · intro v hv
    simp only [List.mem_singleton] at hv
    subst hv
    refine ⟨by simp [maxLen], show (⟨#[97]⟩ : ByteArray).size ≤ 9223372036854775807 by decide, ?_⟩
    intro o ho
    simp only [List.mem_singleton] at ho
    subst ho
    exact ⟨show op41.text.size ≤ 9223372036854775807 by decide, by simp [op41, maxLen], show ∀ a ∈ op41.arms, a.pat.size ≤ 9223372036854775807 by decide⟩
  · exact rd_blkN (t := 47) (Blk.new' (by simp)) (fun h => h)
  · rintro e w2 ⟨⟨A1, c1, he, hr2⟩, ho2⟩
    rw [lit41] at he hr2
    subst he
    obtain ⟨b, o, rfl, _, hb, hc⟩ := flat_cells encLag_len hr2 0 ⟨0, 0, 2, 3, 0, 4⟩ rfl (by omega)
    have g0 := hc 0 (by omega)
    have g1 := hc 1 (by omega)
    have g2 := hc 2 (by omega)
    have g3 := hc 3 (by omega)
    have g4 := hc 4 (by omega)
    have g5 := hc 5 (by omega)
    simp [encLag] at g0 g1 g2 g3 g4 g5
    have HO := hide (show Only NoBlk w w2 from ((((((((Only.refl NoBlk w).alloc _).alloc _).alloc _).alloc _).alloc _).alloc _)).trans ho2)
    have HRo := hide (fun w => Rounds_c 0 0 2 3 0 4 w (by omega) (by omega) (by omega))
    rw [show roundsM ⟨0, 0, 2, 3, 0, 4⟩ = 1 from by decide] at HRo
    clear hr2 ho2 hc
    simp only [List.length_cons, List.length_nil, Nat.zero_add]
    go_wp2_with fail
    refine (HRo.out _).mono ?_
    rintro en w3 ⟨rfl, hb3⟩
    have HO3 := hide (HO.out.trans (Only.of_below hb3 _))
    clear hb3
    go_wp2_with fail
    go_ret
    exact ⟨rfl, HO3.out⟩
end Go.Proofs.Ytgfogoplmokilaa
namespace Go.Proofs.Ytgfogoplmokilaa
open Go.RowKit
set_option linter.unusedVariables false
set_option linter.unusedSimpArgs false

set_option maxRecDepth 100000 in
set_option maxHeartbeats 6400000 in
theorem refRounds_c (a b c d e f : Int) (w : World) (hd : d ≤ 9223372036854775807) (he : e ≤ 9223372036854775807) (hf : f ≤ 9223372036854775807) :
    Calls Try.prog 28 #[.agg #[.int .i64 a, .int .i64 b, .int .i64 c, .int .i64 d, .int .i64 e, .int .i64 f]] w fun en w' => en = .returned (.int .i64 (roundsM ⟨a, b, c, d, e, f⟩)) ∧ Below w.heap.size w w' := by
  have HQ := hide (show roundsM ⟨a, b, c, d, e, f⟩ = if a < 0 ∨ b < 0 ∨ c < 0 ∨ d < 0 ∨ e < 0 ∨ f < 0 then 0 else max (f - max d e) 0 from rfl)
  obtain ⟨T, hT⟩ : ∃ T, T = roundsM ⟨a, b, c, d, e, f⟩ := ⟨_, rfl⟩
  rw [← hT] at HQ ⊢
  clear hT
  by_cases h : a < 0 ∨ b < 0 ∨ c < 0 ∨ d < 0 ∨ e < 0 ∨ f < 0
  · have HQ2 := hide (HQ.out.trans (if_pos h))
    go_enter Try.func28, Try.ntmps28
    go_wp2
    all_goals first
      | (exfalso; omega)
      | (go_ret; exact ⟨by rw [HQ2.out]; rfl, below_alloc _ _⟩)
  · have HQ2 := hide (HQ.out.trans (if_neg h))
    have d1 : decide (a < 0) = false := by simp; omega
    have d2 : decide (b < 0) = false := by simp; omega
    have d3 : decide (c < 0) = false := by simp; omega
    have d4 : decide (d < 0) = false := by simp; omega
    have d5 : decide (e < 0) = false := by simp; omega
    have d6 : decide (f < 0) = false := by simp; omega
    have w1 : IntKind.i64.wrap (f - d) = f - d := IntWalk.i64_in _ (by omega)
    have w2 : IntKind.i64.wrap (f - e) = f - e := IntWalk.i64_in _ (by omega)
    by_cases h1 : d < e
    · have d7 : decide (d < e) = true := by simp [h1]
      by_cases h2 : f < e
      · have d8 : decide (f < e) = true := by simp [h2]
        have HQ3 := hide (show T = 0 by rw [HQ2.out]; omega)
        clear h h1 h2
        go_enter Try.func28, Try.ntmps28
        go_wp2_with fail
        go_ret
        exact ⟨by rw [HQ3.out]; rfl, below_alloc _ _⟩
      · have d8 : decide (f < e) = false := by simp; omega
        have HQ3 := hide (show T = f - e by rw [HQ2.out]; omega)
        clear h h1 h2
        go_enter Try.func28, Try.ntmps28
        go_wp2_with fail
        go_ret
        exact ⟨by rw [HQ3.out]; rfl, below_alloc _ _⟩
    · have d7 : decide (d < e) = false := by simp; omega
      by_cases h2 : f < d
      · have d8 : decide (f < d) = true := by simp [h2]
        have HQ3 := hide (show T = 0 by rw [HQ2.out]; omega)
        clear h h1 h2
        go_enter Try.func28, Try.ntmps28
        go_wp2_with fail
        go_ret
        exact ⟨by rw [HQ3.out]; rfl, below_alloc _ _⟩
      · have d8 : decide (f < d) = false := by simp; omega
        have HQ3 := hide (show T = f - d by rw [HQ2.out]; omega)
        clear h h1 h2
        go_enter Try.func28, Try.ntmps28
        go_wp2_with fail
        go_ret
        exact ⟨by rw [HQ3.out]; rfl, below_alloc _ _⟩
set_option maxRecDepth 100000 in
set_option maxHeartbeats 6400000 in
theorem PromptRounds_walk (a b c d e f : Int) (w : World) (hd : d ≤ 9223372036854775807) (he : e ≤ 9223372036854775807) (hf : f ≤ 9223372036854775807) :
    Calls Try.prog 5 #[.agg #[.int .i64 a, .int .i64 b, .int .i64 c, .int .i64 d, .int .i64 e, .int .i64 f]] w fun en w' => en = .returned (.bool true) ∧ Only NoBlk w w' := by
  have H1 := hide (fun w => Rounds_c a b c d e f w hd he hf)
  have H2 := hide (fun w => refRounds_c a b c d e f w hd he hf)
  have H3 := hide (fun w => lives41_c w)
  have hT0 := rounds_nn ⟨a, b, c, d, e, f⟩
  obtain ⟨T, hT⟩ : ∃ T, T = roundsM ⟨a, b, c, d, e, f⟩ := ⟨_, rfl⟩
  rw [← hT] at H1 H2 hT0
  have d1 : decide ((0 : Int) ≤ T) = true := by simp [hT0]
  have d2 : decide (T < 0) = false := by simp; omega
  have d3 : (T == T) = true := by simp
  obtain ⟨W, hW⟩ : ∃ W, W = w.alloc (.cells #[.int .i64 a, .int .i64 b, .int .i64 c, .int .i64 d, .int .i64 e, .int .i64 f] 60) := ⟨_, rfl⟩
  have HO := hide (show Only NoBlk w W by rw [hW]; exact (Only.refl _ _).alloc _)
  have HB := hide (show Blk W w.heap.size 60 #[.int .i64 a, .int .i64 b, .int .i64 c, .int .i64 d, .int .i64 e, .int .i64 f] by rw [hW]; exact Blk.new _ _ _)
  have HW := hide hW
  clear hT hW
  go_enter Try.func5, Try.ntmps5
  go_upto_region 1 with fail
  change Code.wp _ _ _ _ (w.alloc (.cells #[.int .i64 a, .int .i64 b, .int .i64 c, .int .i64 d, .int .i64 e, .int .i64 f] 60))
  rw [← HW.out]
  obtain ⟨g0, g1, g2, g3, g4, g5⟩ := HB.out.six
  go_wp2_with fail
  refine (H1.out _).mono ?_
  rintro en w2 ⟨rfl, hb2⟩
  replace HO := hide (HO.out.trans (Only.of_below hb2 _))
  replace HB := hide (HB.out.below hb2)
  clear hb2 g0 g1 g2 g3 g4 g5
  obtain ⟨g0, g1, g2, g3, g4, g5⟩ := HB.out.six
  go_wp2_with fail
  refine (H2.out _).mono ?_
  rintro en w3 ⟨rfl, hb3⟩
  replace HO := hide (HO.out.trans (Only.of_below hb3 _))
  clear hb3
  go_wp2_with fail
  refine (H3.out _).mono ?_
  rintro en w4 ⟨rfl, ho4⟩
  replace HO := hide (HO.out.trans ho4)
  clear ho4
  go_wp2_with fail
  go_ret
  exact ⟨rfl, HO.out⟩
end Go.Proofs.Ytgfogoplmokilaa
