/- The law TurnsPlay: for every input it answers true, and its arguments read as they did. Conditions: none. -/
import Derived.Test.YtmkbhejbbhikcaaTurnsPlayW
import Derived.Test.YtmkbhejbbhikcaaLaw
import Derived.Lib.SmallJoins
namespace Go.Proofs.Ytmkbhejbbhikcaa.turnsPlay
open Go.ChangeShapes Go.WideShapes Go.ChangeAt Go.RowKit
theorem Try.cellsPlay27 : Try.prog.cellsOf 100 = 3 := by kernel_rfl
set_option maxRecDepth 100000 in
theorem lifted (os : Os) (started : os.Started) (H : Type) (enc : TypeId × Value → H) :
    ReturnsInHanded {} Try.checked os 16 .any (Rows.turnsPlaySpec.pre6 enc Try.prog Try.f16 Rows.turnsPlayRow.domain false) (Rows.turnsPlaySpec.post enc Try.prog Try.f16 false true false false) := by
  refine returnsInHanded_of_change_sized (C := Try.checked) Try.own started (by kernel_rfl) Try.func16
    (ChangeSpec.witness6 (enc := enc) (C := Try.checked) false ⟨#[], #[.agg #[.int .i64 0, .int .i64 0, .slice none 0 0], .int .i64 0], []⟩ 8 (by kernel_rfl) (by kernel_rfl) (by kernel_rfl) (by kernel_rfl)) ?_
  intro W base args ds gs before hval0 hW _ hsz0 _
  have hval : ∀ (j : Nat) t v, Try.f16.params[j]? = some t → args[j]? = some v → Value.okWide Try.prog W .any base t v := hval0
  have hW' := hW
  obtain ⟨p, q, hA0, hV, he0, _, _⟩ := hW
  obtain ⟨rfl, rfl⟩ := trodVars_none hV
  rw [List.append_nil] at he0
  subst he0
  have hA : DataW.TrodAll enc Try.prog W 0 (fun _ => true) true Try.f16.params.toList args.toList ds before := hA0
  have hsz : (DataW.weightsEach Try.prog (Try.f16.params.toList ++ Rows.turnsPlaySpec.plain.varTypes Try.prog) (ds ++ [])).all (· ≤ reachBytes) = true := hsz0
  rw [Try.params16] at hA hval hsz
  obtain ⟨v0, vs0, d0, ds0, p0, q0, hargs, rfl, rfl, h0, r0⟩ := trodAll_cons hA
  obtain ⟨v1, vs1, d1, ds1, p1, q1, rfl, rfl, rfl, h1, r1⟩ := trodAll_cons r0
  obtain ⟨rfl, rfl, rfl⟩ := trodAll_nil r1
  obtain rfl : args = #[v0, v1] := by cases args; simp_all
  clear hA0 hval0 hsz0
  obtain ⟨c0, c1, c2, y0, y1, y2, fm, rfl, rfl, rfl, hy0, hy1, hy2⟩ := Go.Joins.open_agg3 Try.underlying100 (by kernel_rfl) Try.cellsPlay27 (hval 0 100 v0 rfl rfl) h0
  obtain ⟨a0, e0, _, w0⟩ := DataW.trod_int Try.underlying3 hy0
  obtain ⟨a1, e1, _, w1⟩ := DataW.trod_int Try.underlying3 hy1
  injection e0 with e0 _
  injection e1 with e1 _
  subst e0 e1
  have hv2 : ∃ a n c, c2 = .slice a n c := slice_of_cell Try.underlying92 hy2
  obtain ⟨A, c, l, rfl, hlc, hcm, hr, hok⟩ := open_acts (t := 92) (d := y2.1) (p := y2.2) Try.underlying92 Try.underlying96 (by kernel_rfl) (by kernel_rfl) rfl (by
    intro j f hf
    rcases j with _ | _ | _ | j
    · injection hf with hf; subst hf; exact Try.underlying3
    · injection hf with hf; subst hf; exact Try.underlying3
    · injection hf with hf; subst hf; exact Try.underlying3
    · simp at hf) hv2 (trod_of_cell hv2 hy2)
  obtain ⟨a2, rfl, rfl, rfl, w2⟩ := open_int Try.underlying3 (hval 1 3 v1 rfl rfl) h1
  refine (TurnsPlay_walk a0 a1 a2 A c l W hr (Nat.le_trans hlc hcm)).mono fun e W1 ⟨he, hg⟩ => ⟨_, he, ?_⟩
  exact law_post Try.laidOut (by kernel_rfl) rfl Try.underlying4 rfl hW' rfl rfl rfl hg
theorem over : Rows.turnsPlayRow.holds Try.pinned (OpenSpec.ofChange Rows.turnsPlaySpec) :=
  OpenClaim.holds_of_wide 16 Try.f16 rfl rfl rfl rfl rfl rfl rfl ⟨rfl, rfl, rfl, rfl, rfl⟩ rfl rfl rfl rfl rfl (by kernel_rfl) Try.func16 (by kernel_rfl)
    (of_decide_eq_true (by kernel_rfl)) (by unfold Func.isWrapper; rw [if_neg (by decide +kernel)]; exact ⟨rfl, rfl⟩)
    (fun os started H enc _ => lifted os started H enc)
theorem proved : Rows.TurnsPlaySaid := over
#print axioms proved
end Go.Proofs.Ytmkbhejbbhikcaa.turnsPlay
