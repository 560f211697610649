/- The law RingOrders: for every input it answers true, and its arguments read as they did. Conditions: none. -/
import Derived.Test.YtmkbhejbbhikcaaRingOrdersW
import Derived.Test.YtmkbhejbbhikcaaLaw
namespace Go.Proofs.Ytmkbhejbbhikcaa.ringOrders
open Go.ChangeShapes Go.WideShapes Go.ChangeAt Go.RowKit
set_option maxRecDepth 100000 in
theorem lifted (os : Os) (started : os.Started) (H : Type) (enc : TypeId × Value → H) :
    ReturnsInHanded {} Try.checked os 8 .any (Rows.ringOrdersSpec.pre6 enc Try.prog Try.f8 Rows.ringOrdersRow.domain false) (Rows.ringOrdersSpec.post enc Try.prog Try.f8 false true false false) := by
  refine returnsInHanded_of_change_sized (C := Try.checked) Try.own started (by kernel_rfl) Try.func8
    (ChangeSpec.witness6 (enc := enc) (C := Try.checked) false ⟨#[], #[.int .u8 0, .slice none 0 0, .slice none 0 0], []⟩ 8 (by kernel_rfl) (by kernel_rfl) (by kernel_rfl) (by kernel_rfl)) ?_
  intro W base args ds gs before hval0 hW _ hsz0 _
  have hval : ∀ (j : Nat) t v, Try.f8.params[j]? = some t → args[j]? = some v → Value.okWide Try.prog W .any base t v := hval0
  have hW' := hW
  obtain ⟨p, q, hA0, hV, he0, _, _⟩ := hW
  obtain ⟨rfl, rfl⟩ := trodVars_none hV
  rw [List.append_nil] at he0
  subst he0
  have hA : DataW.TrodAll enc Try.prog W 0 (fun _ => true) true Try.f8.params.toList args.toList ds before := hA0
  have hsz : (DataW.weightsEach Try.prog (Try.f8.params.toList ++ Rows.ringOrdersSpec.plain.varTypes Try.prog) (ds ++ [])).all (· ≤ reachBytes) = true := hsz0
  rw [Try.params8] at hA hval hsz
  obtain ⟨v0, vs0, d0, ds0, p0, q0, hargs, rfl, rfl, h0, r0⟩ := trodAll_cons hA
  obtain ⟨v1, vs1, d1, ds1, p1, q1, rfl, rfl, rfl, h1, r1⟩ := trodAll_cons r0
  obtain ⟨v2, vs2, d2, ds2, p2, q2, rfl, rfl, rfl, h2, r2⟩ := trodAll_cons r1
  obtain ⟨rfl, rfl, rfl⟩ := trodAll_nil r2
  obtain rfl : args = #[v0, v1, v2] := by cases args; simp_all
  clear hA0 hval0 hsz0
  obtain ⟨a0, rfl, rfl, rfl, w0⟩ := open_int Try.underlying5 (hval 0 5 v0 rfl rfl) h0
  have hb0 := bounds_u8 w0
  have hv1 : ∃ a n c, v1 = .slice a n c := by
    obtain ⟨a, n, c, rfl⟩ := okWide_slice Try.underlying61 (hval 1 61 v1 rfl rfl)
    exact ⟨a, n, c, rfl⟩
  obtain ⟨A, c, l, rfl, hlc, hcm, hr, hok⟩ := open_texts Try.underlying61 Try.underlying9 (by kernel_rfl) hv1 h1
  have hv2 : ∃ a n c, v2 = .slice a n c := by
    obtain ⟨a, n, c, rfl⟩ := okWide_slice Try.underlying62 (hval 2 62 v2 rfl rfl)
    exact ⟨a, n, c, rfl⟩
  obtain ⟨B, d, t, rfl, htc, htm, hrt, hokt⟩ := open_u8s Try.underlying62 Try.underlying5 (by kernel_rfl) hv2 h2
  refine (RingOrders_walk a0 (by omega) (by omega) A B c d l t W hr hok (Nat.le_trans hlc hcm) hrt hokt (Nat.le_trans htc htm)).mono fun e W1 ⟨he, hg⟩ => ⟨_, he, ?_⟩
  exact law_post Try.laidOut (by kernel_rfl) rfl Try.underlying4 rfl hW' rfl rfl rfl hg
theorem over : Rows.ringOrdersRow.holds Try.pinned (OpenSpec.ofChange Rows.ringOrdersSpec) :=
  OpenClaim.holds_of_wide 8 Try.f8 rfl rfl rfl rfl rfl rfl rfl ⟨rfl, rfl, rfl, rfl, rfl⟩ rfl rfl rfl rfl rfl (by kernel_rfl) Try.func8 (by kernel_rfl)
    (of_decide_eq_true (by kernel_rfl)) (by unfold Func.isWrapper; rw [if_neg (by decide +kernel)]; exact ⟨rfl, rfl⟩)
    (fun os started H enc _ => lifted os started H enc)
theorem proved : Rows.RingOrdersSaid := over
#print axioms proved
end Go.Proofs.Ytmkbhejbbhikcaa.ringOrders
