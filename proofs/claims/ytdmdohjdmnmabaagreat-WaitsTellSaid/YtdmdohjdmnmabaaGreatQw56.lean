/- The law WaitsTell: for every input it answers true, and its arguments read as they did. Conditions: none. -/
import Derived.Test.YtdmdohjdmnmabaaGreatQw55
import Derived.Test.YtdmdohjdmnmabaaGreatQw54
import Derived.Test.YtdmdohjdmnmabaaGreatQw02
namespace Go.Proofs.YtdmdohjdmnmabaaGreat.waitsTell
open Go.ChangeShapes Go.WideShapes Go.ChangeAt Go.RowKit
set_option maxRecDepth 100000 in
theorem lifted (os : Os) (started : os.Started) (H : Type) (enc : TypeId × Value → H) :
 ReturnsInHanded {} Tryz.checked os 5 .any (Rows.waitsTellSpec.pre6 enc Tryz.prog Tryz.f5 Rows.waitsTellRow.domain false) (Rows.waitsTellSpec.post enc Tryz.prog Tryz.f5 false true false false) := by
 refine returnsInHanded_of_change_sized (C := Tryz.checked) Tryz.own started (by kernel_rfl) Tryz.func5
  (ChangeSpec.witness6 (enc := enc) (C := Tryz.checked) false ⟨#[], #[.agg #[.int .i64 0, .int .i64 0, .int .i64 0, .int .i64 0, .int .i64 0, .int .i64 0, .slice none 0 0, .slice none 0 0], .slice none 0 0, .int .i64 0], []⟩ 8 (by kernel_rfl) (by kernel_rfl) (by kernel_rfl) (by kernel_rfl)) ?_
 intro W base args ds gs before hval0 hW _ hsz0 _
 have hval : ∀ (j : Nat) t v, Tryz.f5.params[j]? = some t → args[j]? = some v → Value.okWide Tryz.prog W .any base t v := hval0
 have hW' := hW
 obtain ⟨p, q, hA0, hV, he0, _, _⟩ := hW
 obtain ⟨rfl, rfl⟩ := trodVars_none hV
 rw [List.append_nil] at he0
 subst he0
 have hA : DataW.TrodAll enc Tryz.prog W 0 (fun _ => true) true Tryz.f5.params.toList args.toList ds before := hA0
 have hsz : (DataW.weightsEach Tryz.prog (Tryz.f5.params.toList ++ Rows.waitsTellSpec.plain.varTypes Tryz.prog) (ds ++ [])).all (· ≤ reachBytes) = true := hsz0
 rw [Tryz.params5] at hA hval hsz
 obtain ⟨v0, vs0, d0, ds0, p0, q0, hargs, rfl, rfl, h0, r0⟩ := trodAll_cons hA
 obtain ⟨v1, vs1, d1, ds1, p1, q1, rfl, rfl, rfl, h1, r1⟩ := trodAll_cons r0
 obtain ⟨v2, vs2, d2, ds2, p2, q2, rfl, rfl, rfl, h2, r2⟩ := trodAll_cons r1
 obtain ⟨rfl, rfl, rfl⟩ := trodAll_nil r2
 obtain rfl : args = #[v0, v1, v2] := by cases args; simp_all
 clear hA0 hval0 hsz0
 obtain ⟨s, SA, Ps, sc, RA, rn, rc, rfl, hs, hsn, hok⟩ := open_world (hval 0 37 v0 rfl rfl) h0
 have hv1 : ∃ a n c, v1 = .slice a n c := by
  obtain ⟨a, n, c, rfl⟩ := okWide_slice Tryz.underlying38 (hval 1 38 v1 rfl rfl)
  exact ⟨a, n, c, rfl⟩
 obtain ⟨A, c, l, rfl, hlc, hcm, hr, hev⟩ := open_evs2 hv1 h1
 obtain ⟨a2, rfl, rfl, rfl, w2⟩ := open_int Tryz.underlying2 (hval 2 2 v2 rfl rfl) h2
 refine ((WaitsTell_walk s SA Ps sc RA rn rc A c l a2 W hs hsn (fun v hv => (hok v hv).1) hr (Nat.le_trans hlc hcm) (fun v hv => (hok v hv).2) (fun x hx => ⟨(hev x hx).2.tick.2, (hev x hx).2.st.tick.2⟩) (I64.of_wf w2).2).mono fun e W1 ⟨he, hg⟩ => (⟨he, hg⟩ : _ ∧ Only NoBlk W W1)).mono fun e W1 ⟨he, hg⟩ => ⟨_, he, ?_⟩
 exact law_post Tryz.laidOut (by kernel_rfl) rfl Tryz.underlying4 rfl hW' rfl rfl rfl hg
theorem over : Rows.waitsTellRow.holds Tryz.pinned (OpenSpec.ofChange Rows.waitsTellSpec) :=
 OpenClaim.holds_of_wide 5 Tryz.f5 rfl rfl rfl rfl rfl rfl rfl ⟨rfl, rfl, rfl, rfl, rfl⟩ rfl rfl rfl rfl rfl (by kernel_rfl) Tryz.func5 (by kernel_rfl)
  (of_decide_eq_true (by kernel_rfl)) (by unfold Func.isWrapper; rw [if_neg (by decide +kernel)]; exact ⟨rfl, rfl⟩)
  (fun os started H enc _ => lifted os started H enc)
theorem proved : Rows.WaitsTellSaid := over
#print axioms proved
end Go.Proofs.YtdmdohjdmnmabaaGreat.waitsTell
