/- Parts of a chain of lemmas: Congr0, OpenPr, OpenEv2, OpenSet, OpenWd. Conditions: those of each theorem. -/
import Derived.Test.YtdmdohjdmnmabaaGreatQw53
import Derived.Test.YtdmdohjdmnmabaaGreatQw03
import Derived.Test.YtdmdohjdmnmabaaGreatQw14
import Derived.Test.YtdmdohjdmnmabaaGreatQw25
import Derived.Test.YtdmdohjdmnmabaaGreatQw23
namespace Go.Proofs.YtdmdohjdmnmabaaGreat
set_option linter.unusedVariables false
set_option linter.unusedSimpArgs false

theorem prAt_map {Ps Qs : List PrV} (h : Ps.map prM = Qs.map prM) (k : Nat) : prM (prAt Ps k) = prM (prAt Qs k) := by
 have e : ∀ L : List PrV, prM (prAt L k) = (L.map prM).getD k (prM ⟨⟨#[]⟩, 0, 0, none, 0, []⟩) := by
  intro L
  unfold prAt
  simp only [List.getD, List.getElem?_map]
  cases L[k]? <;> rfl
 rw [e Ps, e Qs, h]
theorem scrB_congr {Ps Qs : List PrV} (h : Ps.map prM = Qs.map prM) (l : List Ev) (id : Int) : scrB Ps l id = scrB Qs l id := by
 have hl : Ps.length = Qs.length := by have := congrArg List.length h; simpa using this
 unfold scrB
 rw [hl, prAt_map h]
theorem perM_congr {β : Type} {Ps Qs : List PrV} (h : Ps.map prM = Qs.map prM) (l : List Ev) (one : ProgM → Int → List β) (ids : List Int) : perM Ps l (fun v id => one (prM v) id) ids = perM Qs l (fun v id => one (prM v) id) ids := by
 unfold perM
 congr 1
 funext id
 rw [scrB_congr h]
 simp only [prAt_map h]
end Go.Proofs.YtdmdohjdmnmabaaGreat
namespace Go.Proofs.YtdmdohjdmnmabaaGreat
open Go.ChangeShapes Go.WideShapes Go.ChangeAt Go.RowKit Go.Deep
theorem list2' {α : Type} {l : List α} {a b : α} (h : l.length = 2) (h0 : l[0]? = some a) (h1 : l[1]? = some b) : l = [a, b] := by
 match l, h with
 | [x0, x1], _ => simp at h0 h1; rw [h0, h1]
theorem list4' {α : Type} {l : List α} {a b c d : α} (h : l.length = 4) (h0 : l[0]? = some a) (h1 : l[1]? = some b) (h2 : l[2]? = some c) (h3 : l[3]? = some d) : l = [a, b, c, d] := by
 match l, h with
 | [x0, x1, x2, x3], _ => simp at h0 h1 h2 h3; rw [h0, h1, h2, h3]
theorem list7' {α : Type} {l : List α} {a b c d e f g : α} (h : l.length = 7) (h0 : l[0]? = some a) (h1 : l[1]? = some b) (h2 : l[2]? = some c) (h3 : l[3]? = some d) (h4 : l[4]? = some e) (h5 : l[5]? = some f) (h6 : l[6]? = some g) : l = [a, b, c, d, e, f, g] := by
 match l, h with
 | [x0, x1, x2, x3, x4, x5, x6], _ => simp at h0 h1 h2 h3 h4 h5 h6; rw [h0, h1, h2, h3, h4, h5, h6]
section
variable {H : Type} {enc : TypeId × Value → H} {w : World}
theorem cell_int {t : TypeId} {n : Nat} {v : Value} {y : DataW H × List MemPlace} (ht : Tryz.prog.underlying t = some (.int .i64)) (h : DataW.trod enc Tryz.prog w 0 (fun _ => true) true n t [v] = some y) : ∃ k : Int, v = .int .i64 k := by
 obtain ⟨k, hc, _, _⟩ := DataW.trod_int ht h
 injection hc with hc _
 exact ⟨k, hc⟩
theorem cell_str {t : TypeId} {n : Nat} {v : Value} {y : DataW H × List MemPlace} (ht : Tryz.prog.underlying t = some .string) (h : DataW.trod enc Tryz.prog w 0 (fun _ => true) true n t [v] = some y) : ∃ s : ByteArray, v = .string s ∧ s.size ≤ maxLen := by
 obtain ⟨s, hc, _, hs⟩ := DataW.trod_string ht h
 injection hc with hc _
 exact ⟨s, hc, hs⟩
set_option maxRecDepth 100000 in
theorem arm_of {fuel : Nat} {cs : List Value} {x : DataW H × List MemPlace} (h : DataW.trod enc Tryz.prog w 0 (fun _ => true) true fuel 79 cs = some x) : ∃ a : ArmM, cs = encArm a ∧ a.pat.size ≤ maxLen := by
 obtain ⟨hl, hf⟩ := struct_cells (fs := _) Tryz.underlying79 (by kernel_rfl) (by kernel_rfl) h
 obtain ⟨v0, y0, n0, e0, t0⟩ := hf 0 _ rfl
 obtain ⟨v1, y1, n1, e1, t1⟩ := hf 1 _ rfl
 obtain ⟨s, rfl, hs⟩ := cell_str Tryz.underlying9 t0
 obtain ⟨k, rfl⟩ := cell_int Tryz.underlying3 t1
 exact ⟨⟨s, k⟩, list2' hl e0 e1, hs⟩
def OpOk (w : World) (v : OpV) : Prop := Rd w NoBlk v.A (flat encArm v.o.arms) ∧ OpSz v
theorem maxLen_le : maxLen ≤ 9223372036854775807 := by simp [maxLen]
set_option maxRecDepth 100000 in
theorem op_of {fuel : Nat} {cs : List Value} {x : DataW H × List MemPlace} (h : DataW.trod enc Tryz.prog w 0 (fun _ => true) true fuel 75 cs = some x) : ∃ v : OpV, cs = encOp v ∧ OpOk w v := by
 obtain ⟨hl, hf⟩ := struct_cells (fs := _) Tryz.underlying75 (by kernel_rfl) (by kernel_rfl) h
 obtain ⟨v0, y0, n0, e0, t0⟩ := hf 0 _ rfl
 obtain ⟨v1, y1, n1, e1, t1⟩ := hf 1 _ rfl
 obtain ⟨v2, y2, n2, e2, t2⟩ := hf 2 _ rfl
 obtain ⟨v3, y3, n3, e3, t3⟩ := hf 3 _ rfl
 obtain ⟨v4, y4, n4, e4, t4⟩ := hf 4 _ rfl
 obtain ⟨v5, y5, n5, e5, t5⟩ := hf 5 _ rfl
 obtain ⟨v6, y6, n6, e6, t6⟩ := hf 6 _ rfl
 obtain ⟨k, rfl⟩ := cell_int Tryz.underlying3 t0
 obtain ⟨s, rfl, hs⟩ := cell_str Tryz.underlying9 t1
 obtain ⟨nn, rfl⟩ := cell_int Tryz.underlying2 t2
 obtain ⟨gt, rfl⟩ := cell_int Tryz.underlying3 t3
 obtain ⟨ot, rfl⟩ := cell_int Tryz.underlying3 t5
 obtain ⟨oe, rfl⟩ := cell_int Tryz.underlying3 t6
 have hv := slice_of_cell Tryz.underlying73 t4
 obtain ⟨A, n, c, xs, hv', hl4, hnc, hcm, hr, hq, _⟩ := open_rows (sz := 2) (Q := fun cs => ∃ a : ArmM, cs = encArm a ∧ a.pat.size ≤ maxLen) Tryz.underlying73 (by kernel_rfl) (by omega) hv (trod_of_cell hv t4) (fun fuel cs x hx => arm_of hx)
 obtain ⟨l, hxl, hok⟩ := exists_map (enc := encArm) xs (fun x hx => (hq x hx).2)
 subst hxl
 have hln : l.length = n := by simpa using hl4
 subst hln
 subst hv'
 refine ⟨⟨⟨k, s, nn, gt, l, ot, oe⟩, A, c⟩, list7' hl e0 e1 e2 e3 e4 e5 e6, hr, Nat.le_trans hs maxLen_le, Nat.le_trans hnc hcm, fun a ha => Nat.le_trans (hok a ha) maxLen_le⟩
set_option maxRecDepth 100000 in
theorem prog_of {fuel : Nat} {cs : List Value} {x : DataW H × List MemPlace} (h : DataW.trod enc Tryz.prog w 0 (fun _ => true) true fuel 24 cs = some x) :
 ∃ (s : ByteArray) (d j : Int) (A : Option Addr) (L : List OpV) (c : Nat), cs = [.string s, .int .i64 d, .int .i64 j, .slice A L.length c] ∧ s.size ≤ maxLen ∧ OpsRd w NoBlk A L ∧ L.length ≤ maxLen ∧ ∀ v ∈ L, OpSz v := by
 obtain ⟨hl, hf⟩ := struct_cells (fs := _) Tryz.underlying24 (by kernel_rfl) (by kernel_rfl) h
 obtain ⟨v0, y0, n0, e0, t0⟩ := hf 0 _ rfl
 obtain ⟨v1, y1, n1, e1, t1⟩ := hf 1 _ rfl
 obtain ⟨v2, y2, n2, e2, t2⟩ := hf 2 _ rfl
 obtain ⟨v3, y3, n3, e3, t3⟩ := hf 3 _ rfl
 obtain ⟨s, rfl, hs⟩ := cell_str Tryz.underlying9 t0
 obtain ⟨d, rfl⟩ := cell_int Tryz.underlying2 t1
 obtain ⟨j, rfl⟩ := cell_int Tryz.underlying3 t2
 have hv := slice_of_cell Tryz.underlying22 t3
 obtain ⟨A, n, c, xs, hv', hl4, hnc, hcm, hr, hq, _⟩ := open_rows (sz := 7) (Q := fun cs => ∃ a : OpV, cs = encOp a ∧ OpOk w a) Tryz.underlying22 (by kernel_rfl) (by omega) hv (trod_of_cell hv t3) (fun fuel cs x hx => op_of hx)
 obtain ⟨L, hxl, hok⟩ := exists_map (enc := encOp) xs (fun x hx => (hq x hx).2)
 subst hxl
 have hln : L.length = n := by simpa using hl4
 subst hln
 subst hv'
 exact ⟨s, d, j, A, L, c, list4' hl e0 e1 e2 e3, hs, ⟨hr, fun v hv => (hok v hv).1⟩, Nat.le_trans hnc hcm, fun v hv => (hok v hv).2⟩
end
set_option maxRecDepth 100000 in
theorem open_prog {H : Type} {enc : TypeId × Value → H} {w : World} {v : Value} {d : DataW H} {p : List MemPlace} {r : Reach} {b0 : Nat} (hv : Value.okWide Tryz.prog w r b0 24 v) (h : DataW.Trod enc Tryz.prog w 0 (fun _ => true) true 24 v d p) :
 ∃ (s : ByteArray) (d j : Int) (A : Option Addr) (L : List OpV) (c : Nat), v = .agg #[.string s, .int .i64 d, .int .i64 j, .slice A L.length c] ∧ s.size ≤ maxLen ∧ OpsRd w NoBlk A L ∧ L.length ≤ maxLen ∧ ∀ v ∈ L, OpSz v := by
 obtain ⟨cs, rfl, hsz⟩ := okWide_struct Tryz.underlying24 hv
 obtain ⟨fuel, hf⟩ := h
 obtain ⟨s, d, j, A, L, c, hq, hs, hr, hn, hz⟩ := prog_of hf
 refine ⟨s, d, j, A, L, c, ?_, hs, hr, hn, hz⟩
 have hq2 : cs.toList = [.string s, .int .i64 d, .int .i64 j, .slice A L.length c] := hq
 obtain ⟨l⟩ := cs
 simp only at hq2
 rw [hq2]
set_option maxRecDepth 100000 in
theorem open_step {H : Type} {enc : TypeId × Value → H} {w : World} {v : Value} {d : DataW H} {p : List MemPlace} {r : Reach} {b0 : Nat} (hv : Value.okWide Tryz.prog w r b0 26 v) (h : DataW.Trod enc Tryz.prog w 0 (fun _ => true) true 26 v d p) :
 ∃ st sa sw sr sn ss : Int, v = .agg #[.int .i64 st, .int .i64 sa, .int .i64 sw, .int .i64 sr, .int .i64 sn, .int .i64 ss] := by
 obtain ⟨cs, rfl, hsz⟩ := okWide_struct Tryz.underlying26 hv
 obtain ⟨fuel, hf⟩ := h
 obtain ⟨⟨st, sa, sw, sr, sn, ss⟩, hq⟩ := step_of hf
 refine ⟨st, sa, sw, sr, sn, ss, ?_⟩
 have hq2 : cs.toList = [.int .i64 st, .int .i64 sa, .int .i64 sw, .int .i64 sr, .int .i64 sn, .int .i64 ss] := hq
 obtain ⟨l⟩ := cs
 simp only at hq2
 rw [hq2]
end Go.Proofs.YtdmdohjdmnmabaaGreat
namespace Go.Proofs.YtdmdohjdmnmabaaGreat
open Go.ChangeShapes Go.WideShapes Go.ChangeAt Go.RowKit Go.Deep
/-- a number of 64 bits -/
def I64 (n : Int) : Prop := -9223372036854775808 ≤ n ∧ n ≤ 9223372036854775807
theorem I64.of_wf {n : Int} (h : (Lit.int .i64 n).wf = true) : I64 n := by
 simp only [Lit.wf, Bool.and_eq_true, decide_eq_true_eq] at h
 have h1 : (-9223372036854775808 : Int) ≤ n := h.1
 have h2 : n ≤ 9223372036854775807 := h.2
 exact ⟨h1, h2⟩
structure StpOk (x : Stp) : Prop where
 tick : I64 x.tick
 at_ : I64 x.at_
 what : I64 x.what
 arm : I64 x.arm
 n : I64 x.n
 status : I64 x.status
structure EvOk (x : Ev) : Prop where
 k : I64 x.k
 id : I64 x.id
 n : I64 x.n
 tick : I64 x.tick
 err : I64 x.err
 st : StpOk x.st
section
variable {H : Type} {enc : TypeId × Value → H} {P : Program} {w : World}
theorem all_ints_wf {t : TypeId} {fs : Array Field} {fuel : Nat} {cs : List Value} {x : DataW H × List MemPlace} {base : Nat} {spare : Nat → Bool} {held : Bool} (hs : P.underlying t = some (.struct fs)) (hone : oneCellFields P fs = true) (hC : P.cellsOf t = fs.size)
 (hi : ∀ (j : Nat) (f : Field), fs[j]? = some f → P.underlying f.type = some (.int .i64)) (h : DataW.trod enc P w base spare held fuel t cs = some x) :
 cs.length = fs.size ∧ ∀ j, j < fs.size → ∃ n, cs[j]? = some (.int .i64 n) ∧ I64 n := by
 obtain ⟨hl, hf⟩ := struct_cells hs hone hC h
 refine ⟨hl, fun j hj => ?_⟩
 have hfj : fs[j]? = some (fs[j]'hj) := Array.getElem?_eq_getElem hj
 obtain ⟨v, y, n, hv, ht⟩ := hf j _ hfj
 obtain ⟨k, hc, _, hw⟩ := DataW.trod_int (hi j _ hfj) ht
 injection hc with hc _
 subst hc
 exact ⟨k, hv, I64.of_wf hw⟩
end
set_option maxRecDepth 100000 in
theorem step_ok {H : Type} {enc : TypeId × Value → H} {w : World} {fuel : Nat} {cs : List Value} {x : DataW H × List MemPlace} (h : DataW.trod enc Tryz.prog w 0 (fun _ => true) true fuel 26 cs = some x) : ∃ s : Stp, cs = encStp s ∧ StpOk s := by
 obtain ⟨hl, hf⟩ := all_ints_wf (fs := _) Tryz.underlying26 (by kernel_rfl) (by kernel_rfl) (by
  intro j f hf
  rcases j with _ | _ | _ | _ | _ | _ | j
  ·injection hf with hf; subst hf; exact Tryz.underlying2
  ·injection hf with hf; subst hf; exact Tryz.underlying3
  ·injection hf with hf; subst hf; exact Tryz.underlying3
  ·injection hf with hf; subst hf; exact Tryz.underlying3
  ·injection hf with hf; subst hf; exact Tryz.underlying3
  ·injection hf with hf; subst hf; exact Tryz.underlying3
  ·simp at hf) h
 obtain ⟨n0, e0, w0⟩ := hf 0 (by decide)
 obtain ⟨n1, e1, w1⟩ := hf 1 (by decide)
 obtain ⟨n2, e2, w2⟩ := hf 2 (by decide)
 obtain ⟨n3, e3, w3⟩ := hf 3 (by decide)
 obtain ⟨n4, e4, w4⟩ := hf 4 (by decide)
 obtain ⟨n5, e5, w5⟩ := hf 5 (by decide)
 exact ⟨⟨n0, n1, n2, n3, n4, n5⟩, list6 hl e0 e1 e2 e3 e4 e5, ⟨w0, w1, w2, w3, w4, w5⟩⟩
set_option maxRecDepth 100000 in
theorem ev_ok {H : Type} {enc : TypeId × Value → H} {w : World} {fuel : Nat} {cs : List Value} {x : DataW H × List MemPlace} (h : DataW.trod enc Tryz.prog w 0 (fun _ => true) true fuel 82 cs = some x) : ∃ e : Ev, cs = encEv e ∧ e.s.size ≤ maxLen ∧ EvOk e := by
 obtain ⟨ys, n, _, _, hl, hyl0, hf⟩ := DataW.trod_struct Tryz.underlying82 h
 have hC : Tryz.prog.cellsOf 82 = 12 := by kernel_rfl
 rw [hC] at hl
 have hyl : ys.length = 7 := hyl0
 have c0 : Tryz.prog.cellsOf 3 = 1 := by kernel_rfl
 have g0 : DataW.trod enc Tryz.prog w 0 (fun _ => true) true n 3 ((cs.drop 0).take (Tryz.prog.cellsOf 3)) = ys[0]? := hf 0 _ rfl
 rw [c0, List.getElem?_eq_getElem (by omega)] at g0
 obtain ⟨z0, e0, _, hw0⟩ := DataW.trod_int Tryz.underlying3 g0
 have c1 : Tryz.prog.cellsOf 3 = 1 := by kernel_rfl
 have g1 : DataW.trod enc Tryz.prog w 0 (fun _ => true) true n 3 ((cs.drop 1).take (Tryz.prog.cellsOf 3)) = ys[1]? := hf 1 _ rfl
 rw [c1, List.getElem?_eq_getElem (by omega)] at g1
 obtain ⟨z1, e1, _, hw1⟩ := DataW.trod_int Tryz.underlying3 g1
 have c2 : Tryz.prog.cellsOf 3 = 1 := by kernel_rfl
 have g2 : DataW.trod enc Tryz.prog w 0 (fun _ => true) true n 3 ((cs.drop 2).take (Tryz.prog.cellsOf 3)) = ys[2]? := hf 2 _ rfl
 rw [c2, List.getElem?_eq_getElem (by omega)] at g2
 obtain ⟨z2, e2, _, hw2⟩ := DataW.trod_int Tryz.underlying3 g2
 have c3 : Tryz.prog.cellsOf 2 = 1 := by kernel_rfl
 have g3 : DataW.trod enc Tryz.prog w 0 (fun _ => true) true n 2 ((cs.drop 3).take (Tryz.prog.cellsOf 2)) = ys[3]? := hf 3 _ rfl
 rw [c3, List.getElem?_eq_getElem (by omega)] at g3
 obtain ⟨z3, e3, _, hw3⟩ := DataW.trod_int Tryz.underlying2 g3
 have c4 : Tryz.prog.cellsOf 9 = 1 := by kernel_rfl
 have g4 : DataW.trod enc Tryz.prog w 0 (fun _ => true) true n 9 ((cs.drop 4).take (Tryz.prog.cellsOf 9)) = ys[4]? := hf 4 _ rfl
 rw [c4, List.getElem?_eq_getElem (by omega)] at g4
 obtain ⟨z4, e4, _, hw4⟩ := DataW.trod_string Tryz.underlying9 g4
 have c5 : Tryz.prog.cellsOf 80 = 1 := by kernel_rfl
 have g5 : DataW.trod enc Tryz.prog w 0 (fun _ => true) true n 80 ((cs.drop 5).take (Tryz.prog.cellsOf 80)) = ys[5]? := hf 5 _ rfl
 rw [c5, List.getElem?_eq_getElem (by omega)] at g5
 obtain ⟨z5, e5, _, hw5⟩ := DataW.trod_int Tryz.underlying80 g5
 have c6 : Tryz.prog.cellsOf 26 = 6 := by kernel_rfl
 have g6 : DataW.trod enc Tryz.prog w 0 (fun _ => true) true n 26 ((cs.drop 6).take (Tryz.prog.cellsOf 26)) = ys[6]? := hf 6 _ rfl
 rw [c6, List.getElem?_eq_getElem (by omega)] at g6
 obtain ⟨st, e6, hw6⟩ := step_ok g6
 have e6' : cs.drop 6 = encStp st := by
  rw [← e6]
  exact (List.take_of_length_le (by rw [List.length_drop]; omega)).symm
 refine ⟨⟨z0, z1, z2, z3, z4, z5, st⟩, ?_, hw4, ⟨I64.of_wf hw0, I64.of_wf hw1, I64.of_wf hw2, I64.of_wf hw3, I64.of_wf hw5, hw6⟩⟩
 have h6 : cs = cs.take 6 ++ cs.drop 6 := (List.take_append_drop 6 cs).symm
 rw [h6, e6']
 have h5 : cs.take 6 = [.int .i64 z0, .int .i64 z1, .int .i64 z2, .int .i64 z3, .string z4, .int .i64 z5] := by
  have hlt : (cs.take 6).length = 6 := by rw [List.length_take]; omega
  refine list6 hlt ?_ ?_ ?_ ?_ ?_ ?_
  ·rw [List.getElem?_take, if_pos (by omega)]; exact take1 e0
  ·rw [List.getElem?_take, if_pos (by omega)]; exact take1 e1
  ·rw [List.getElem?_take, if_pos (by omega)]; exact take1 e2
  ·rw [List.getElem?_take, if_pos (by omega)]; exact take1 e3
  ·rw [List.getElem?_take, if_pos (by omega)]; exact take1 e4
  ·rw [List.getElem?_take, if_pos (by omega)]; exact take1 e5
 rw [h5]
 rfl
set_option maxRecDepth 100000 in
theorem open_evs2 {H : Type} {enc : TypeId × Value → H} {w : World} {v : Value} {d : DataW H} {p : List MemPlace} (hv : ∃ a n c, v = .slice a n c) (h : DataW.Trod enc Tryz.prog w 0 (fun _ => true) true 38 v d p) :
 ∃ (A : Option Addr) (c : Nat) (l : List Ev), v = .slice A l.length c ∧ l.length ≤ c ∧ c ≤ maxLen ∧ Rd w NoBlk A (flat encEv l) ∧ ∀ x ∈ l, x.s.size ≤ maxLen ∧ EvOk x := by
 obtain ⟨A, n, c, xs, hv', hl, hnc, hcm, hr, hq, _⟩ := open_rows (sz := 12) (Q := fun cs => ∃ a : Ev, cs = encEv a ∧ a.s.size ≤ maxLen ∧ EvOk a) Tryz.underlying38 (by kernel_rfl) (by omega) hv h (fun fuel cs x hx => ev_ok hx)
 obtain ⟨l, hxl, hok⟩ := exists_map (enc := encEv) xs (fun x hx => (hq x hx).2)
 subst hxl
 have hln : l.length = n := by simpa using hl
 subst hln
 exact ⟨A, c, l, hv', hnc, hcm, hr, hok⟩
end Go.Proofs.YtdmdohjdmnmabaaGreat
namespace Go.Proofs.YtdmdohjdmnmabaaGreat
open Go.ChangeShapes Go.WideShapes Go.ChangeAt Go.RowKit Go.Deep
set_option maxRecDepth 100000 in
theorem open_set {H : Type} {enc : TypeId × Value → H} {w : World} {v : Value} {d : DataW H} {p : List MemPlace} {r : Reach} {b0 : Nat} (hv : Value.okWide Tryz.prog w r b0 33 v) (h : DataW.Trod enc Tryz.prog w 0 (fun _ => true) true 33 v d p) :
 ∃ s : SetM, v = .agg (setV s) := by
 obtain ⟨cs, rfl, hsz⟩ := okWide_struct Tryz.underlying33 hv
 obtain ⟨fuel, hf⟩ := h
 obtain ⟨hl, hc⟩ := all_ints_wf (fs := _) Tryz.underlying33 (by kernel_rfl) (by kernel_rfl) (by
  intro j f hf
  rcases j with _ | _ | _ | _ | _ | _ | j
  ·injection hf with hf; subst hf; exact Tryz.underlying3
  ·injection hf with hf; subst hf; exact Tryz.underlying3
  ·injection hf with hf; subst hf; exact Tryz.underlying3
  ·injection hf with hf; subst hf; exact Tryz.underlying3
  ·injection hf with hf; subst hf; exact Tryz.underlying3
  ·injection hf with hf; subst hf; exact Tryz.underlying3
  ·simp at hf) hf
 obtain ⟨n0, e0, w0⟩ := hc 0 (by decide)
 obtain ⟨n1, e1, w1⟩ := hc 1 (by decide)
 obtain ⟨n2, e2, w2⟩ := hc 2 (by decide)
 obtain ⟨n3, e3, w3⟩ := hc 3 (by decide)
 obtain ⟨n4, e4, w4⟩ := hc 4 (by decide)
 obtain ⟨n5, e5, w5⟩ := hc 5 (by decide)
 refine ⟨⟨n0, n1, n2, n3, n4, n5⟩, ?_⟩
 have hq := list6 hl e0 e1 e2 e3 e4 e5
 have hq2 : cs.toList = [.int .i64 n0, .int .i64 n1, .int .i64 n2, .int .i64 n3, .int .i64 n4, .int .i64 n5] := hq
 obtain ⟨l⟩ := cs
 simp only at hq2
 rw [hq2]
end Go.Proofs.YtdmdohjdmnmabaaGreat
namespace Go.Proofs.YtdmdohjdmnmabaaGreat
open Go.ChangeShapes Go.WideShapes Go.ChangeAt Go.RowKit Go.Deep
section
variable {H : Type} {enc : TypeId × Value → H} {w : World}
def OpOk2 (w : World) (v : OpV) : Prop := Rd w NoBlk v.A (flat encArm v.o.arms) ∧ OpSz v ∧ v.o.n ≤ 9223372036854775807
set_option maxRecDepth 100000 in
theorem op_of2 {fuel : Nat} {cs : List Value} {x : DataW H × List MemPlace} (h : DataW.trod enc Tryz.prog w 0 (fun _ => true) true fuel 75 cs = some x) : ∃ v : OpV, cs = encOp v ∧ OpOk2 w v := by
 obtain ⟨hl, hf⟩ := struct_cells (fs := _) Tryz.underlying75 (by kernel_rfl) (by kernel_rfl) h
 obtain ⟨v0, y0, n0, e0, t0⟩ := hf 0 _ rfl
 obtain ⟨v1, y1, n1, e1, t1⟩ := hf 1 _ rfl
 obtain ⟨v2, y2, n2, e2, t2⟩ := hf 2 _ rfl
 obtain ⟨v3, y3, n3, e3, t3⟩ := hf 3 _ rfl
 obtain ⟨v4, y4, n4, e4, t4⟩ := hf 4 _ rfl
 obtain ⟨v5, y5, n5, e5, t5⟩ := hf 5 _ rfl
 obtain ⟨v6, y6, n6, e6, t6⟩ := hf 6 _ rfl
 obtain ⟨k, rfl⟩ := cell_int Tryz.underlying3 t0
 obtain ⟨s, rfl, hs⟩ := cell_str Tryz.underlying9 t1
 obtain ⟨nn, hcn, _, hwn⟩ := DataW.trod_int Tryz.underlying2 t2
 injection hcn with hcn _
 subst hcn
 obtain ⟨gt, rfl⟩ := cell_int Tryz.underlying3 t3
 obtain ⟨ot, rfl⟩ := cell_int Tryz.underlying3 t5
 obtain ⟨oe, rfl⟩ := cell_int Tryz.underlying3 t6
 have hv := slice_of_cell Tryz.underlying73 t4
 obtain ⟨A, n, c, xs, hv', hl4, hnc, hcm, hr, hq, _⟩ := open_rows (sz := 2) (Q := fun cs => ∃ a : ArmM, cs = encArm a ∧ a.pat.size ≤ maxLen) Tryz.underlying73 (by kernel_rfl) (by omega) hv (trod_of_cell hv t4) (fun fuel cs x hx => arm_of hx)
 obtain ⟨l, hxl, hok⟩ := exists_map (enc := encArm) xs (fun x hx => (hq x hx).2)
 subst hxl
 have hln : l.length = n := by simpa using hl4
 subst hln
 subst hv'
 refine ⟨⟨⟨k, s, nn, gt, l, ot, oe⟩, A, c⟩, list7' hl e0 e1 e2 e3 e4 e5 e6, hr, ⟨Nat.le_trans hs maxLen_le, Nat.le_trans hnc hcm, fun a ha => Nat.le_trans (hok a ha) maxLen_le⟩, (I64.of_wf hwn).2⟩
set_option maxRecDepth 100000 in
theorem prog_of2 {fuel : Nat} {cs : List Value} {x : DataW H × List MemPlace} (h : DataW.trod enc Tryz.prog w 0 (fun _ => true) true fuel 24 cs = some x) :
 ∃ (s : ByteArray) (d j : Int) (A : Option Addr) (L : List OpV) (c : Nat), cs = [.string s, .int .i64 d, .int .i64 j, .slice A L.length c] ∧ s.size ≤ maxLen ∧ OpsRd w NoBlk A L ∧ L.length ≤ maxLen ∧ (∀ v ∈ L, OpSz v) ∧ ∀ v ∈ L, v.o.n ≤ 9223372036854775807 := by
 obtain ⟨hl, hf⟩ := struct_cells (fs := _) Tryz.underlying24 (by kernel_rfl) (by kernel_rfl) h
 obtain ⟨v0, y0, n0, e0, t0⟩ := hf 0 _ rfl
 obtain ⟨v1, y1, n1, e1, t1⟩ := hf 1 _ rfl
 obtain ⟨v2, y2, n2, e2, t2⟩ := hf 2 _ rfl
 obtain ⟨v3, y3, n3, e3, t3⟩ := hf 3 _ rfl
 obtain ⟨s, rfl, hs⟩ := cell_str Tryz.underlying9 t0
 obtain ⟨d, rfl⟩ := cell_int Tryz.underlying2 t1
 obtain ⟨j, rfl⟩ := cell_int Tryz.underlying3 t2
 have hv := slice_of_cell Tryz.underlying22 t3
 obtain ⟨A, n, c, xs, hv', hl4, hnc, hcm, hr, hq, _⟩ := open_rows (sz := 7) (Q := fun cs => ∃ a : OpV, cs = encOp a ∧ OpOk2 w a) Tryz.underlying22 (by kernel_rfl) (by omega) hv (trod_of_cell hv t3) (fun fuel cs x hx => op_of2 hx)
 obtain ⟨L, hxl, hok⟩ := exists_map (enc := encOp) xs (fun x hx => (hq x hx).2)
 subst hxl
 have hln : L.length = n := by simpa using hl4
 subst hln
 subst hv'
 exact ⟨s, d, j, A, L, c, list4' hl e0 e1 e2 e3, hs, ⟨hr, fun v hv => (hok v hv).1⟩, Nat.le_trans hnc hcm, fun v hv => (hok v hv).2.1, fun v hv => (hok v hv).2.2⟩

def PrOk (w : World) (v : PrV) : Prop := OpsRd w NoBlk v.PA v.L ∧ PrSz v ∧ ∀ o ∈ v.L, o.o.n ≤ 9223372036854775807
theorem prv_of {fuel : Nat} {cs : List Value} {x : DataW H × List MemPlace} (h : DataW.trod enc Tryz.prog w 0 (fun _ => true) true fuel 24 cs = some x) : ∃ v : PrV, cs = encPr v ∧ PrOk w v := by
 obtain ⟨s, d, j, A, L, c, hq, hs, hr, hn, hz, hnn⟩ := prog_of2 h
 exact ⟨⟨s, d, j, A, c, L⟩, hq, hr, ⟨hn, Nat.le_trans hs maxLen_le, hz⟩, hnn⟩
end
theorem Blk.eight8 {w : World} {g : Nat} {t : TypeId} {a0 a1 a2 a3 a4 a5 a6 a7 : Value} (h : Blk w g t #[a0, a1, a2, a3, a4, a5, a6, a7]) :
 w.cell? ⟨g, 0, none⟩ = some a0 ∧ w.cell? ⟨g, 1, none⟩ = some a1 ∧ w.cell? ⟨g, 2, none⟩ = some a2 ∧ w.cell? ⟨g, 3, none⟩ = some a3 ∧ w.cell? ⟨g, 4, none⟩ = some a4 ∧ w.cell? ⟨g, 5, none⟩ = some a5 ∧ w.cell? ⟨g, 6, none⟩ = some a6 ∧ w.cell? ⟨g, 7, none⟩ = some a7 := by
 refine ⟨?_, ?_, ?_, ?_, ?_, ?_, ?_, ?_⟩ <;> (rw [h.cell]; rfl)
def worldV (s : SetM) (SA : Option Addr) (n c : Nat) (RA : Option Addr) (rn rc : Nat) : Array Value := #[.int .i64 s.live, .int .i64 s.ring, .int .i64 s.win, .int .i64 s.out, .int .i64 s.quantum, .int .i64 s.visits, .slice SA n c, .slice RA rn rc]
theorem list8 {α : Type} {l : List α} {a b c d e f g h : α} (hl : l.length = 8) (h0 : l[0]? = some a) (h1 : l[1]? = some b) (h2 : l[2]? = some c) (h3 : l[3]? = some d) (h4 : l[4]? = some e) (h5 : l[5]? = some f) (h6 : l[6]? = some g) (h7 : l[7]? = some h) : l = [a, b, c, d, e, f, g, h] := by
 match l, hl with
 | [x0, x1, x2, x3, x4, x5, x6, x7], _ => simp at h0 h1 h2 h3 h4 h5 h6 h7; rw [h0, h1, h2, h3, h4, h5, h6, h7]
theorem take6 {α : Type} {l : List α} {n0 n1 n2 n3 n4 n5 : α} (h : (l.drop 0).take 6 = [n0, n1, n2, n3, n4, n5]) : l[0]? = some n0 ∧ l[1]? = some n1 ∧ l[2]? = some n2 ∧ l[3]? = some n3 ∧ l[4]? = some n4 ∧ l[5]? = some n5 := by
 have e : ∀ i, i < 6 → l[i]? = [n0, n1, n2, n3, n4, n5][i]? := by
  intro i hi
  rw [← h, List.drop_zero, List.getElem?_take, if_pos hi]
 exact ⟨e 0 (by omega), e 1 (by omega), e 2 (by omega), e 3 (by omega), e 4 (by omega), e 5 (by omega)⟩
set_option maxRecDepth 100000 in
theorem open_world {H : Type} {enc : TypeId × Value → H} {w : World} {v : Value} {d : DataW H} {p : List MemPlace} {r : Reach} {b0 : Nat} (hv : Value.okWide Tryz.prog w r b0 37 v) (h : DataW.Trod enc Tryz.prog w 0 (fun _ => true) true 37 v d p) :
 ∃ (s : SetM) (SA : Option Addr) (Ps : List PrV) (sc : Nat) (RA : Option Addr) (rn rc : Nat), v = .agg (worldV s SA Ps.length sc RA rn rc) ∧ PrsRd w NoBlk SA Ps ∧ Ps.length ≤ maxLen ∧ ∀ v ∈ Ps, PrSz v ∧ ∀ o ∈ v.L, o.o.n ≤ 9223372036854775807 := by
 obtain ⟨cs, rfl, hsz⟩ := okWide_struct Tryz.underlying37 hv
 obtain ⟨fuel, hf0⟩ := h
 obtain ⟨ys, n, _, _, hl, hyl0, hf⟩ := DataW.trod_struct Tryz.underlying37 hf0
 have hC : Tryz.prog.cellsOf 37 = 8 := by kernel_rfl
 rw [hC] at hl
 have hl8 : cs.toList.length = 8 := hl
 have hyl : ys.length = 3 := hyl0
 have c0 : Tryz.prog.cellsOf 33 = 6 := by kernel_rfl
 have c1 : Tryz.prog.cellsOf 34 = 1 := by kernel_rfl
 have c2 : Tryz.prog.cellsOf 35 = 1 := by kernel_rfl
 have g0 : DataW.trod enc Tryz.prog w 0 (fun _ => true) true n 33 ((cs.toList.drop 0).take (Tryz.prog.cellsOf 33)) = ys[0]? := hf 0 _ rfl
 have g1 : DataW.trod enc Tryz.prog w 0 (fun _ => true) true n 34 ((cs.toList.drop 6).take (Tryz.prog.cellsOf 34)) = ys[1]? := hf 1 _ rfl
 have g2 : DataW.trod enc Tryz.prog w 0 (fun _ => true) true n 35 ((cs.toList.drop 7).take (Tryz.prog.cellsOf 35)) = ys[2]? := hf 2 _ rfl
 rw [c0, List.getElem?_eq_getElem (by omega)] at g0
 rw [c1, List.getElem?_eq_getElem (by omega)] at g1
 rw [c2, List.getElem?_eq_getElem (by omega)] at g2
 obtain ⟨hl6, hc⟩ := all_ints_wf (fs := _) Tryz.underlying33 (by kernel_rfl) (by kernel_rfl) (by
  intro j f hf
  rcases j with _ | _ | _ | _ | _ | _ | j
  ·injection hf with hf; subst hf; exact Tryz.underlying3
  ·injection hf with hf; subst hf; exact Tryz.underlying3
  ·injection hf with hf; subst hf; exact Tryz.underlying3
  ·injection hf with hf; subst hf; exact Tryz.underlying3
  ·injection hf with hf; subst hf; exact Tryz.underlying3
  ·injection hf with hf; subst hf; exact Tryz.underlying3
  ·simp at hf) g0
 obtain ⟨n0, e0, _⟩ := hc 0 (by decide)
 obtain ⟨n1, e1, _⟩ := hc 1 (by decide)
 obtain ⟨n2, e2, _⟩ := hc 2 (by decide)
 obtain ⟨n3, e3, _⟩ := hc 3 (by decide)
 obtain ⟨n4, e4, _⟩ := hc 4 (by decide)
 obtain ⟨n5, e5, _⟩ := hc 5 (by decide)
 obtain ⟨k0, k1, k2, k3, k4, k5⟩ := take6 (list6 hl6 e0 e1 e2 e3 e4 e5)
 obtain ⟨u6, hu6⟩ : ∃ u, cs.toList[6]? = some u := ⟨cs.toList[6]'(by omega), List.getElem?_eq_getElem _⟩
 obtain ⟨u7, hu7⟩ : ∃ u, cs.toList[7]? = some u := ⟨cs.toList[7]'(by omega), List.getElem?_eq_getElem _⟩
 have t6 : (cs.toList.drop 6).take 1 = [u6] := by
  obtain ⟨h6, e6⟩ := List.getElem?_eq_some_iff.1 hu6
  rw [List.drop_eq_getElem_cons h6, e6]; rfl
 have t7 : (cs.toList.drop 7).take 1 = [u7] := by
  obtain ⟨h7, e7⟩ := List.getElem?_eq_some_iff.1 hu7
  rw [List.drop_eq_getElem_cons h7, e7]; rfl
 rw [t6] at g1
 rw [t7] at g2
 have hv6 := slice_of_cell Tryz.underlying34 g1
 obtain ⟨SA, np, sc, xs, hv', hl4, hnc, hcm, hr, hq, _⟩ := open_rows (sz := 4) (Q := fun cs => ∃ a : PrV, cs = encPr a ∧ PrOk w a) Tryz.underlying34 (by kernel_rfl) (by omega) hv6 (trod_of_cell hv6 g1) (fun fuel cs x hx => prv_of hx)
 obtain ⟨Ps, hxl, hok⟩ := exists_map (enc := encPr) xs (fun x hx => (hq x hx).2)
 subst hxl
 have hln : Ps.length = np := by simpa using hl4
 subst hln
 obtain ⟨RA, rn, rc, hv7⟩ := slice_of_cell Tryz.underlying35 g2
 refine ⟨⟨n0, n1, n2, n3, n4, n5⟩, SA, Ps, sc, RA, rn, rc, ?_, ⟨hr, fun v hv => (hok v hv).1⟩, Nat.le_trans hnc hcm, fun v hv => (hok v hv).2⟩
 have hq2 := list8 (l := cs.toList) (by omega) k0 k1 k2 k3 k4 k5 hu6 hu7
 rw [hv', hv7] at hq2
 obtain ⟨l⟩ := cs
 simp only at hq2
 rw [hq2]
 rfl
end Go.Proofs.YtdmdohjdmnmabaaGreat
