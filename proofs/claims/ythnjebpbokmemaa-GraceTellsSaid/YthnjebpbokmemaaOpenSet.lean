/- A setup as an argument. Conditions: those of each theorem. -/
import Derived.Test.YthnjebpbokmemaaOpenEv2
import Derived.Test.YthnjebpbokmemaaGraceB
namespace Go.Proofs.Ythnjebpbokmemaa
open Go.ChangeShapes Go.WideShapes Go.ChangeAt Go.RowKit Go.Deep
set_option maxRecDepth 100000 in
theorem open_set {H : Type} {enc : TypeId × Value → H} {w : World} {v : Value} {d : DataW H} {p : List MemPlace} {r : Reach} {b0 : Nat} (hv : Value.okWide Try.prog w r b0 54 v) (h : DataW.Trod enc Try.prog w 0 (fun _ => true) true 54 v d p) :
    ∃ s : SetM, v = .agg (setV s) := by
  obtain ⟨cs, rfl, hsz⟩ := okWide_struct Try.underlying54 hv
  obtain ⟨fuel, hf⟩ := h
  obtain ⟨hl, hc⟩ := all_ints_wf (fs := _) Try.underlying54 (by kernel_rfl) (by kernel_rfl) (by
    intro j f hf
    rcases j with _ | _ | _ | _ | _ | _ | j
    · injection hf with hf; subst hf; exact Try.underlying3
    · injection hf with hf; subst hf; exact Try.underlying3
    · injection hf with hf; subst hf; exact Try.underlying3
    · injection hf with hf; subst hf; exact Try.underlying3
    · injection hf with hf; subst hf; exact Try.underlying3
    · injection hf with hf; subst hf; exact Try.underlying3
    · simp at hf) hf
  obtain ⟨n0, e0, w0⟩ := hc 0 (by decide)
  obtain ⟨n1, e1, w1⟩ := hc 1 (by decide)
  obtain ⟨n2, e2, w2⟩ := hc 2 (by decide)
  obtain ⟨n3, e3, w3⟩ := hc 3 (by decide)
  obtain ⟨n4, e4, w4⟩ := hc 4 (by decide)
  obtain ⟨n5, e5, w5⟩ := hc 5 (by decide)
  refine ⟨⟨n0, n1, n2, n3, n4, n5⟩, ?_⟩
  have hq := list6 hl e0 e1 e2 e3 e4 e5
  have hq2 : cs.toList = [.int .i64 n0, .int .i64 n1, .int .i64 n2, .int .i64 n3, .int .i64 n4, .int .i64 n5] := hq
  obtain ⟨l⟩ := cs
  simp only at hq2
  rw [hq2]
end Go.Proofs.Ythnjebpbokmemaa
