/- A row as an argument. Conditions: those of each theorem. -/
import Derived.Test.YthnjebpbokmemaaDoorOpenEv2
import Derived.Test.YthnjebpbokmemaaDoorTxt4
namespace Go.Proofs.YthnjebpbokmemaaDoor
open Go.ChangeShapes Go.WideShapes Go.ChangeAt Go.RowKit Go.Deep
theorem list10 {α : Type} {l : List α} {a b c d e f g h i j : α} (hl : l.length = 10) (h0 : l[0]? = some a) (h1 : l[1]? = some b) (h2 : l[2]? = some c) (h3 : l[3]? = some d) (h4 : l[4]? = some e) (h5 : l[5]? = some f) (h6 : l[6]? = some g) (h7 : l[7]? = some h) (h8 : l[8]? = some i) (h9 : l[9]? = some j) : l = [a, b, c, d, e, f, g, h, i, j] := by
  match l, hl with
  | [x0, x1, x2, x3, x4, x5, x6, x7, x8, x9], _ => simp at h0 h1 h2 h3 h4 h5 h6 h7 h8 h9; rw [h0, h1, h2, h3, h4, h5, h6, h7, h8, h9]
set_option maxRecDepth 100000 in
theorem open_row {H : Type} {enc : TypeId × Value → H} {w : World} {v : Value} {d : DataW H} {p : List MemPlace} {r : Reach} {b0 : Nat} (hv : Value.okWide Tryd.prog w r b0 23 v) (h : DataW.Trod enc Tryd.prog w 0 (fun _ => true) true 23 v d p) :
    ∃ r : RowM, v = .agg (rowV r) ∧ RowOk r := by
  obtain ⟨cs, rfl, hsz⟩ := okWide_struct Tryd.underlying23 hv
  obtain ⟨fuel, hf⟩ := h
  obtain ⟨hl, hc⟩ := all_ints_wf (fs := _) Tryd.underlying23 (by kernel_rfl) (by kernel_rfl) (by
    intro j f hf
    rcases j with _ | _ | _ | _ | _ | _ | _ | _ | _ | _ | j
    · injection hf with hf; subst hf; exact Tryd.underlying3
    · injection hf with hf; subst hf; exact Tryd.underlying3
    · injection hf with hf; subst hf; exact Tryd.underlying2
    · injection hf with hf; subst hf; exact Tryd.underlying3
    · injection hf with hf; subst hf; exact Tryd.underlying3
    · injection hf with hf; subst hf; exact Tryd.underlying3
    · injection hf with hf; subst hf; exact Tryd.underlying3
    · injection hf with hf; subst hf; exact Tryd.underlying3
    · injection hf with hf; subst hf; exact Tryd.underlying3
    · injection hf with hf; subst hf; exact Tryd.underlying2
    · simp at hf) hf
  obtain ⟨n0, e0, w0⟩ := hc 0 (by decide)
  obtain ⟨n1, e1, w1⟩ := hc 1 (by decide)
  obtain ⟨n2, e2, w2⟩ := hc 2 (by decide)
  obtain ⟨n3, e3, w3⟩ := hc 3 (by decide)
  obtain ⟨n4, e4, w4⟩ := hc 4 (by decide)
  obtain ⟨n5, e5, w5⟩ := hc 5 (by decide)
  obtain ⟨n6, e6, w6⟩ := hc 6 (by decide)
  obtain ⟨n7, e7, w7⟩ := hc 7 (by decide)
  obtain ⟨n8, e8, w8⟩ := hc 8 (by decide)
  obtain ⟨n9, e9, w9⟩ := hc 9 (by decide)
  refine ⟨⟨n0, n1, n2, n3, n4, n5, n6, n7, n8, n9⟩, ?_, ⟨w0, w1, w2, w3, w4, w5, w6, w7, w8, w9⟩⟩
  have hq := list10 hl e0 e1 e2 e3 e4 e5 e6 e7 e8 e9
  have hq2 : cs.toList = [.int .i64 n0, .int .i64 n1, .int .i64 n2, .int .i64 n3, .int .i64 n4, .int .i64 n5, .int .i64 n6, .int .i64 n7, .int .i64 n8, .int .i64 n9] := hq
  obtain ⟨l⟩ := cs
  simp only at hq2
  rw [hq2]
end Go.Proofs.YthnjebpbokmemaaDoor
