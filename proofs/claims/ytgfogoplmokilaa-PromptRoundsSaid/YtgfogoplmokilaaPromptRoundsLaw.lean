/- The law PromptRounds: for every input it answers true, and its arguments read as they did. Conditions: none. -/
import Derived.Test.YtgfogoplmokilaaPromptRoundsW
import Derived.Test.YtgfogoplmokilaaOpenLag
import Derived.Test.YtgfogoplmokilaaLaw
namespace Go.Proofs.Ytgfogoplmokilaa.promptRounds
open Go.ChangeShapes Go.WideShapes Go.ChangeAt Go.RowKit
set_option maxRecDepth 100000 in
theorem lifted (os : Os) (started : os.Started) (H : Type) (enc : TypeId × Value → H) :
    ReturnsInHanded {} Try.checked os 5 .any (Rows.promptRoundsSpec.pre6 enc Try.prog Try.f5 Rows.promptRoundsRow.domain false) (Rows.promptRoundsSpec.post enc Try.prog Try.f5 false true false false) := by
  refine returnsInHanded_of_change_sized (C := Try.checked) Try.own started (by kernel_rfl) Try.func5
    (ChangeSpec.witness6 (enc := enc) (C := Try.checked) false ⟨#[], #[.agg #[.int .i64 0, .int .i64 0, .int .i64 0, .int .i64 0, .int .i64 0, .int .i64 0]], []⟩ 8 (by kernel_rfl) (by kernel_rfl) (by kernel_rfl) (by kernel_rfl)) ?_
  intro W base args ds gs before hval0 hW _ hsz0 _
  have hval : ∀ (j : Nat) t v, Try.f5.params[j]? = some t → args[j]? = some v → Value.okWide Try.prog W .any base t v := hval0
  have hW' := hW
  obtain ⟨p, q, hA0, hV, he0, _, _⟩ := hW
  obtain ⟨rfl, rfl⟩ := trodVars_none hV
  rw [List.append_nil] at he0
  subst he0
  have hA : DataW.TrodAll enc Try.prog W 0 (fun _ => true) true Try.f5.params.toList args.toList ds before := hA0
  have hsz : (DataW.weightsEach Try.prog (Try.f5.params.toList ++ Rows.promptRoundsSpec.plain.varTypes Try.prog) (ds ++ [])).all (· ≤ reachBytes) = true := hsz0
  rw [Try.params5] at hA hval hsz
  obtain ⟨v0, vs0, d0, ds0, p0, q0, hargs, rfl, rfl, h0, r0⟩ := trodAll_cons hA
  obtain ⟨rfl, rfl, rfl⟩ := trodAll_nil r0
  obtain rfl : args = #[v0] := by cases args; simp_all
  clear hA0 hval0 hsz0
  obtain ⟨n0, n1, n2, n3, n4, n5, rfl, z0, z1, z2, z3, z4, z5⟩ := open_lag (hval 0 60 v0 rfl rfl) h0
  refine (((PromptRounds_walk n0 n1 n2 n3 n4 n5 W z3.2 z4.2 z5.2).mono fun e W1 ⟨he, hg⟩ => (⟨he, hg⟩ : _ ∧ Only NoBlk W W1))).mono fun e W1 ⟨he, hg⟩ => ⟨_, he, ?_⟩
  exact law_post Try.laidOut (by kernel_rfl) rfl Try.underlying4 rfl hW' rfl rfl rfl hg
theorem over : Rows.promptRoundsRow.holds Try.pinned (OpenSpec.ofChange Rows.promptRoundsSpec) :=
  OpenClaim.holds_of_wide 5 Try.f5 rfl rfl rfl rfl rfl rfl rfl ⟨rfl, rfl, rfl, rfl, rfl⟩ rfl rfl rfl rfl rfl (by kernel_rfl) Try.func5 (by kernel_rfl)
    (of_decide_eq_true (by kernel_rfl)) (by unfold Func.isWrapper; rw [if_neg (by decide +kernel)]; exact ⟨rfl, rfl⟩)
    (fun os started H enc _ => lifted os started H enc)
theorem proved : Rows.PromptRoundsSaid := over
#print axioms proved
end Go.Proofs.Ytgfogoplmokilaa.promptRounds
