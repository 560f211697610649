/- A script as an argument. Conditions: those of each theorem. -/
import Derived.Test.YtaioaojfdngfdaaGreatDoorNb37
import Derived.Test.YtaioaojfdngfdaaGreatDoorNb46
namespace Go.Proofs.YtaioaojfdngfdaaGreatDoor
open Go.ChangeShapes Go.WideShapes Go.ChangeAt Go.RowKit Go.Deep
theorem list2' {α : Type} {l : List α} {a b : α} (h : l.length = 2) (h0 : l[0]? = some a) (h1 : l[1]? = some b) : l = [a, b] := by
  match l, h with
  | [x0, x1], _ => simp at h0 h1; rw [h0, h1]
theorem list4' {α : Type} {l : List α} {a b c d : α} (h : l.length = 4) (h0 : l[0]? = some a) (h1 : l[1]? = some b) (h2 : l[2]? = some c) (h3 : l[3]? = some d) : l = [a, b, c, d] := by
  match l, h with
  | [x0, x1, x2, x3], _ => simp at h0 h1 h2 h3; rw [h0, h1, h2, h3]
theorem list7' {α : Type} {l : List α} {a b c d e f g : α} (h : l.length = 7) (h0 : l[0]? = some a) (h1 : l[1]? = some b) (h2 : l[2]? = some c) (h3 : l[3]? = some d) (h4 : l[4]? = some e) (h5 : l[5]? = some f) (h6 : l[6]? = some g) : l = [a, b, c, d, e, f, g] := by
  match l, h with
  | [x0, x1, x2, x3, x4, x5, x6], _ => simp at h0 h1 h2 h3 h4 h5 h6; rw [h0, h1, h2, h3, h4, h5, h6]
section
variable {H : Type} {enc : TypeId × Value → H} {w : World}
theorem cell_int {t : TypeId} {n : Nat} {v : Value} {y : DataW H × List MemPlace} (ht : Tryz.prog.underlying t = some (.int .i64)) (h : DataW.trod enc Tryz.prog w 0 (fun _ => true) true n t [v] = some y) : ∃ k : Int, v = .int .i64 k := by
  obtain ⟨k, hc, _, _⟩ := DataW.trod_int ht h
  injection hc with hc _
  exact ⟨k, hc⟩
theorem cell_str {t : TypeId} {n : Nat} {v : Value} {y : DataW H × List MemPlace} (ht : Tryz.prog.underlying t = some .string) (h : DataW.trod enc Tryz.prog w 0 (fun _ => true) true n t [v] = some y) : ∃ s : ByteArray, v = .string s ∧ s.size ≤ maxLen := by
  obtain ⟨s, hc, _, hs⟩ := DataW.trod_string ht h
  injection hc with hc _
  exact ⟨s, hc, hs⟩
set_option maxRecDepth 100000 in
theorem arm_of {fuel : Nat} {cs : List Value} {x : DataW H × List MemPlace} (h : DataW.trod enc Tryz.prog w 0 (fun _ => true) true fuel 94 cs = some x) : ∃ a : ArmM, cs = encArm a ∧ a.pat.size ≤ maxLen := by
  obtain ⟨hl, hf⟩ := struct_cells (fs := _) Tryz.underlying94 (by kernel_rfl) (by kernel_rfl) h
  obtain ⟨v0, y0, n0, e0, t0⟩ := hf 0 _ rfl
  obtain ⟨v1, y1, n1, e1, t1⟩ := hf 1 _ rfl
  obtain ⟨s, rfl, hs⟩ := cell_str Tryz.underlying9 t0
  obtain ⟨k, rfl⟩ := cell_int Tryz.underlying3 t1
  exact ⟨⟨s, k⟩, list2' hl e0 e1, hs⟩
def OpOk (w : World) (v : OpV) : Prop := Rd w NoBlk v.A (flat encArm v.o.arms) ∧ OpSz v
theorem maxLen_le : maxLen ≤ 9223372036854775807 := by simp [maxLen]
set_option maxRecDepth 100000 in
theorem op_of {fuel : Nat} {cs : List Value} {x : DataW H × List MemPlace} (h : DataW.trod enc Tryz.prog w 0 (fun _ => true) true fuel 92 cs = some x) : ∃ v : OpV, cs = encOp v ∧ OpOk w v := by
  obtain ⟨hl, hf⟩ := struct_cells (fs := _) Tryz.underlying92 (by kernel_rfl) (by kernel_rfl) h
  obtain ⟨v0, y0, n0, e0, t0⟩ := hf 0 _ rfl
  obtain ⟨v1, y1, n1, e1, t1⟩ := hf 1 _ rfl
  obtain ⟨v2, y2, n2, e2, t2⟩ := hf 2 _ rfl
  obtain ⟨v3, y3, n3, e3, t3⟩ := hf 3 _ rfl
  obtain ⟨v4, y4, n4, e4, t4⟩ := hf 4 _ rfl
  obtain ⟨v5, y5, n5, e5, t5⟩ := hf 5 _ rfl
  obtain ⟨v6, y6, n6, e6, t6⟩ := hf 6 _ rfl
  obtain ⟨k, rfl⟩ := cell_int Tryz.underlying3 t0
  obtain ⟨s, rfl, hs⟩ := cell_str Tryz.underlying9 t1
  obtain ⟨nn, rfl⟩ := cell_int Tryz.underlying2 t2
  obtain ⟨gt, rfl⟩ := cell_int Tryz.underlying3 t3
  obtain ⟨ot, rfl⟩ := cell_int Tryz.underlying3 t5
  obtain ⟨oe, rfl⟩ := cell_int Tryz.underlying3 t6
  have hv := slice_of_cell Tryz.underlying90 t4
  obtain ⟨A, n, c, xs, hv', hl4, hnc, hcm, hr, hq, _⟩ := open_rows (sz := 2) (Q := fun cs => ∃ a : ArmM, cs = encArm a ∧ a.pat.size ≤ maxLen) Tryz.underlying90 (by kernel_rfl) (by omega) hv (trod_of_cell hv t4) (fun fuel cs x hx => arm_of hx)
  obtain ⟨l, hxl, hok⟩ := exists_map (enc := encArm) xs (fun x hx => (hq x hx).2)
  subst hxl
  have hln : l.length = n := by simpa using hl4
  subst hln
  subst hv'
  refine ⟨⟨⟨k, s, nn, gt, l, ot, oe⟩, A, c⟩, list7' hl e0 e1 e2 e3 e4 e5 e6, hr, Nat.le_trans hs maxLen_le, Nat.le_trans hnc hcm, fun a ha => Nat.le_trans (hok a ha) maxLen_le⟩
set_option maxRecDepth 100000 in
theorem prog_of {fuel : Nat} {cs : List Value} {x : DataW H × List MemPlace} (h : DataW.trod enc Tryz.prog w 0 (fun _ => true) true fuel 25 cs = some x) :
    ∃ (s : ByteArray) (d j : Int) (A : Option Addr) (L : List OpV) (c : Nat), cs = [.string s, .int .i64 d, .int .i64 j, .slice A L.length c] ∧ s.size ≤ maxLen ∧ OpsRd w NoBlk A L ∧ L.length ≤ maxLen ∧ ∀ v ∈ L, OpSz v := by
  obtain ⟨hl, hf⟩ := struct_cells (fs := _) Tryz.underlying25 (by kernel_rfl) (by kernel_rfl) h
  obtain ⟨v0, y0, n0, e0, t0⟩ := hf 0 _ rfl
  obtain ⟨v1, y1, n1, e1, t1⟩ := hf 1 _ rfl
  obtain ⟨v2, y2, n2, e2, t2⟩ := hf 2 _ rfl
  obtain ⟨v3, y3, n3, e3, t3⟩ := hf 3 _ rfl
  obtain ⟨s, rfl, hs⟩ := cell_str Tryz.underlying9 t0
  obtain ⟨d, rfl⟩ := cell_int Tryz.underlying2 t1
  obtain ⟨j, rfl⟩ := cell_int Tryz.underlying3 t2
  have hv := slice_of_cell Tryz.underlying23 t3
  obtain ⟨A, n, c, xs, hv', hl4, hnc, hcm, hr, hq, _⟩ := open_rows (sz := 7) (Q := fun cs => ∃ a : OpV, cs = encOp a ∧ OpOk w a) Tryz.underlying23 (by kernel_rfl) (by omega) hv (trod_of_cell hv t3) (fun fuel cs x hx => op_of hx)
  obtain ⟨L, hxl, hok⟩ := exists_map (enc := encOp) xs (fun x hx => (hq x hx).2)
  subst hxl
  have hln : L.length = n := by simpa using hl4
  subst hln
  subst hv'
  exact ⟨s, d, j, A, L, c, list4' hl e0 e1 e2 e3, hs, ⟨hr, fun v hv => (hok v hv).1⟩, Nat.le_trans hnc hcm, fun v hv => (hok v hv).2⟩
end
set_option maxRecDepth 100000 in
theorem open_prog {H : Type} {enc : TypeId × Value → H} {w : World} {v : Value} {d : DataW H} {p : List MemPlace} {r : Reach} {b0 : Nat} (hv : Value.okWide Tryz.prog w r b0 25 v) (h : DataW.Trod enc Tryz.prog w 0 (fun _ => true) true 25 v d p) :
    ∃ (s : ByteArray) (d j : Int) (A : Option Addr) (L : List OpV) (c : Nat), v = .agg #[.string s, .int .i64 d, .int .i64 j, .slice A L.length c] ∧ s.size ≤ maxLen ∧ OpsRd w NoBlk A L ∧ L.length ≤ maxLen ∧ ∀ v ∈ L, OpSz v := by
  obtain ⟨cs, rfl, hsz⟩ := okWide_struct Tryz.underlying25 hv
  obtain ⟨fuel, hf⟩ := h
  obtain ⟨s, d, j, A, L, c, hq, hs, hr, hn, hz⟩ := prog_of hf
  refine ⟨s, d, j, A, L, c, ?_, hs, hr, hn, hz⟩
  have hq2 : cs.toList = [.string s, .int .i64 d, .int .i64 j, .slice A L.length c] := hq
  obtain ⟨l⟩ := cs
  simp only at hq2
  rw [hq2]
end Go.Proofs.YtaioaojfdngfdaaGreatDoor
