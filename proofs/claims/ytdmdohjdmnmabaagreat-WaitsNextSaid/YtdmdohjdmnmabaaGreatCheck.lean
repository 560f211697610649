/- What is wrong of a pattern's text, by the program: arms.Check. Conditions: those of each theorem. -/
import Derived.Test.YtdmdohjdmnmabaaGreatComp
namespace Go.Proofs.YtdmdohjdmnmabaaGreat
open Go.RowKit
set_option linter.unusedVariables false

set_option maxRecDepth 100000 in
set_option maxHeartbeats 3200000 in
theorem acompile_c (s : ByteArray) (w : World) (hs : s.size ≤ 9223372036854775807) : Calls Tryz.prog 158 #[.string s] w fun e w' =>
    ∃ p : Option Addr, e = .returned (.tuple #[.pointer p, .int .i64 (checkS s.data.toList).1, .int .i64 (checkS s.data.toList).2]) ∧ Only NoBlk w w' := by
  have HP := hide (Parse_c s w hs)
  obtain ⟨L, hL⟩ : ∃ L, L = s.data.toList := ⟨_, rfl⟩
  rw [← hL] at HP ⊢
  clear hL
  go_enter Tryz.func158, Tryz.ntmps158
  go_wp2_with fail
  refine HP.out.mono ?_
  rintro e w2 ⟨A, c, its, rfl, hm, hok, hl, hr, ho⟩
  have HC := hide (Compile_c A c its w2 hr hl hok)
  have HO := hide ho
  by_cases hb : (parsesS 0 L).2.2 = 0
  · have hm' := hm hb
    rw [hm'] at HC
    have HQ := hide (show checkS L = if (parsesS 0 L).1.all id = true then (0, 9) else (0, 0) by unfold checkS; rw [if_neg (by simp [hb])])
    obtain ⟨n, hn⟩ : ∃ n, n = its.length := ⟨_, rfl⟩
    rw [← hn] at HC ⊢
    rw [hb]
    clear hm hm' hok hl hr ho hb hn
    cases hall : (parsesS 0 L).1.all id with
    | true =>
      rw [hall] at HC HQ
      rw [if_pos rfl] at HC HQ
      clear hall
      go_wp2_with fail
      refine HC.out.mono ?_
      rintro e w3 ⟨p, rfl, hb3⟩
      have HO3 := hide (HO.out.trans (Only.of_below hb3 _))
      clear hb3
      go_wp2_with fail
      refine bodyPost_ret (v := .tuple #[.pointer p, .int .i64 0, .int .i64 9]) (by simp [results, Tryz.results158, go_sem]) rfl ?_
      rw [HQ.out]
      exact ⟨p, rfl, HO3.out⟩
    | false =>
      rw [hall] at HC HQ
      rw [if_neg (by simp)] at HC HQ
      clear hall
      go_wp2_with fail
      refine HC.out.mono ?_
      rintro e w3 ⟨p, rfl, hb3⟩
      have HO3 := hide (HO.out.trans (Only.of_below hb3 _))
      clear hb3
      go_wp2_with fail
      refine bodyPost_ret (v := .tuple #[.pointer p, .int .i64 0, .int .i64 0]) (by simp [results, Tryz.results158, go_sem]) rfl ?_
      rw [HQ.out]
      exact ⟨p, rfl, HO3.out⟩
  · have HQ := hide (show checkS L = (parsesS 0 L).2 by unfold checkS; rw [if_pos hb])
    obtain ⟨r0, a0, b0, h3⟩ : ∃ r0 a0 b0, parsesS 0 L = (r0, a0, b0) := ⟨_, _, _, rfl⟩
    rw [h3] at HQ hb ⊢
    simp only at HQ hb ⊢
    have hbe : ((b0 : Int) != 0) = true := by simp only [bne_iff_ne, ne_eq]; omega
    clear h3 hm hb HC
    go_wp2_with fail
    refine bodyPost_ret (v := .tuple #[.pointer none, .int .i64 a0, .int .i64 b0]) (by simp [results, Tryz.results158, go_sem]) rfl ?_
    rw [HQ.out]
    exact ⟨none, rfl, HO.out⟩
set_option maxRecDepth 100000 in
set_option maxHeartbeats 3200000 in
theorem Check_c (s : ByteArray) (w : World) (hs : s.size ≤ 9223372036854775807) : Calls Tryz.prog 144 #[.string s] w fun e w' =>
    e = .returned (.tuple #[.int .i64 (checkS s.data.toList).1, .int .i64 (checkS s.data.toList).2]) ∧ Only NoBlk w w' := by
  have HP := hide (acompile_c s w hs)
  obtain ⟨a0, b0, h3⟩ : ∃ a0 b0, checkS s.data.toList = (a0, b0) := ⟨_, _, rfl⟩
  rw [h3] at HP ⊢
  clear h3
  go_enter Tryz.func144, Tryz.ntmps144
  go_wp2_with fail
  refine HP.out.mono ?_
  rintro e w2 ⟨p, rfl, ho⟩
  go_wp2_with fail
  refine bodyPost_ret (v := .tuple #[.int .i64 a0, .int .i64 b0]) (by simp [results, Tryz.results144, go_sem]) rfl ?_
  exact ⟨rfl, ho⟩
end Go.Proofs.YtdmdohjdmnmabaaGreat
