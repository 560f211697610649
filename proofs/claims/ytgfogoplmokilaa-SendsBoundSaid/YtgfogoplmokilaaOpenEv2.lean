/- A list of events as an argument, each number within 64 bits. Conditions: those of each theorem. -/
import Derived.Test.YtgfogoplmokilaaOpenEv
namespace Go.Proofs.Ytgfogoplmokilaa
open Go.ChangeShapes Go.WideShapes Go.ChangeAt Go.RowKit Go.Deep
/-- a number of 64 bits -/
def I64 (n : Int) : Prop := -9223372036854775808 ≤ n ∧ n ≤ 9223372036854775807
theorem I64.of_wf {n : Int} (h : (Lit.int .i64 n).wf = true) : I64 n := by
  simp only [Lit.wf, Bool.and_eq_true, decide_eq_true_eq] at h
  have h1 : (-9223372036854775808 : Int) ≤ n := h.1
  have h2 : n ≤ 9223372036854775807 := h.2
  exact ⟨h1, h2⟩
structure StpOk (x : Stp) : Prop where
  tick : I64 x.tick
  at_ : I64 x.at_
  what : I64 x.what
  arm : I64 x.arm
  n : I64 x.n
  status : I64 x.status
structure EvOk (x : Ev) : Prop where
  k : I64 x.k
  id : I64 x.id
  n : I64 x.n
  tick : I64 x.tick
  err : I64 x.err
  st : StpOk x.st
section
variable {H : Type} {enc : TypeId × Value → H} {P : Program} {w : World}
theorem all_ints_wf {t : TypeId} {fs : Array Field} {fuel : Nat} {cs : List Value} {x : DataW H × List MemPlace} {base : Nat} {spare : Nat → Bool} {held : Bool} (hs : P.underlying t = some (.struct fs)) (hone : oneCellFields P fs = true) (hC : P.cellsOf t = fs.size)
    (hi : ∀ (j : Nat) (f : Field), fs[j]? = some f → P.underlying f.type = some (.int .i64)) (h : DataW.trod enc P w base spare held fuel t cs = some x) :
    cs.length = fs.size ∧ ∀ j, j < fs.size → ∃ n, cs[j]? = some (.int .i64 n) ∧ I64 n := by
  obtain ⟨hl, hf⟩ := struct_cells hs hone hC h
  refine ⟨hl, fun j hj => ?_⟩
  have hfj : fs[j]? = some (fs[j]'hj) := Array.getElem?_eq_getElem hj
  obtain ⟨v, y, n, hv, ht⟩ := hf j _ hfj
  obtain ⟨k, hc, _, hw⟩ := DataW.trod_int (hi j _ hfj) ht
  injection hc with hc _
  subst hc
  exact ⟨k, hv, I64.of_wf hw⟩
end
set_option maxRecDepth 100000 in
theorem step_ok {H : Type} {enc : TypeId × Value → H} {w : World} {fuel : Nat} {cs : List Value} {x : DataW H × List MemPlace} (h : DataW.trod enc Try.prog w 0 (fun _ => true) true fuel 45 cs = some x) : ∃ s : Stp, cs = encStp s ∧ StpOk s := by
  obtain ⟨hl, hf⟩ := all_ints_wf (fs := _) Try.underlying45 (by kernel_rfl) (by kernel_rfl) (by
    intro j f hf
    rcases j with _ | _ | _ | _ | _ | _ | j
    · injection hf with hf; subst hf; exact Try.underlying2
    · injection hf with hf; subst hf; exact Try.underlying3
    · injection hf with hf; subst hf; exact Try.underlying3
    · injection hf with hf; subst hf; exact Try.underlying3
    · injection hf with hf; subst hf; exact Try.underlying3
    · injection hf with hf; subst hf; exact Try.underlying3
    · simp at hf) h
  obtain ⟨n0, e0, w0⟩ := hf 0 (by decide)
  obtain ⟨n1, e1, w1⟩ := hf 1 (by decide)
  obtain ⟨n2, e2, w2⟩ := hf 2 (by decide)
  obtain ⟨n3, e3, w3⟩ := hf 3 (by decide)
  obtain ⟨n4, e4, w4⟩ := hf 4 (by decide)
  obtain ⟨n5, e5, w5⟩ := hf 5 (by decide)
  exact ⟨⟨n0, n1, n2, n3, n4, n5⟩, list6 hl e0 e1 e2 e3 e4 e5, ⟨w0, w1, w2, w3, w4, w5⟩⟩
set_option maxRecDepth 100000 in
theorem ev_ok {H : Type} {enc : TypeId × Value → H} {w : World} {fuel : Nat} {cs : List Value} {x : DataW H × List MemPlace} (h : DataW.trod enc Try.prog w 0 (fun _ => true) true fuel 47 cs = some x) : ∃ e : Ev, cs = encEv e ∧ e.s.size ≤ maxLen ∧ EvOk e := by
  obtain ⟨ys, n, _, _, hl, hyl0, hf⟩ := DataW.trod_struct Try.underlying47 h
  have hC : Try.prog.cellsOf 47 = 12 := by kernel_rfl
  rw [hC] at hl
  have hyl : ys.length = 7 := hyl0
  have c0 : Try.prog.cellsOf 3 = 1 := by kernel_rfl
  have g0 : DataW.trod enc Try.prog w 0 (fun _ => true) true n 3 ((cs.drop 0).take (Try.prog.cellsOf 3)) = ys[0]? := hf 0 _ rfl
  rw [c0, List.getElem?_eq_getElem (by omega)] at g0
  obtain ⟨z0, e0, _, hw0⟩ := DataW.trod_int Try.underlying3 g0
  have c1 : Try.prog.cellsOf 3 = 1 := by kernel_rfl
  have g1 : DataW.trod enc Try.prog w 0 (fun _ => true) true n 3 ((cs.drop 1).take (Try.prog.cellsOf 3)) = ys[1]? := hf 1 _ rfl
  rw [c1, List.getElem?_eq_getElem (by omega)] at g1
  obtain ⟨z1, e1, _, hw1⟩ := DataW.trod_int Try.underlying3 g1
  have c2 : Try.prog.cellsOf 3 = 1 := by kernel_rfl
  have g2 : DataW.trod enc Try.prog w 0 (fun _ => true) true n 3 ((cs.drop 2).take (Try.prog.cellsOf 3)) = ys[2]? := hf 2 _ rfl
  rw [c2, List.getElem?_eq_getElem (by omega)] at g2
  obtain ⟨z2, e2, _, hw2⟩ := DataW.trod_int Try.underlying3 g2
  have c3 : Try.prog.cellsOf 2 = 1 := by kernel_rfl
  have g3 : DataW.trod enc Try.prog w 0 (fun _ => true) true n 2 ((cs.drop 3).take (Try.prog.cellsOf 2)) = ys[3]? := hf 3 _ rfl
  rw [c3, List.getElem?_eq_getElem (by omega)] at g3
  obtain ⟨z3, e3, _, hw3⟩ := DataW.trod_int Try.underlying2 g3
  have c4 : Try.prog.cellsOf 9 = 1 := by kernel_rfl
  have g4 : DataW.trod enc Try.prog w 0 (fun _ => true) true n 9 ((cs.drop 4).take (Try.prog.cellsOf 9)) = ys[4]? := hf 4 _ rfl
  rw [c4, List.getElem?_eq_getElem (by omega)] at g4
  obtain ⟨z4, e4, _, hw4⟩ := DataW.trod_string Try.underlying9 g4
  have c5 : Try.prog.cellsOf 43 = 1 := by kernel_rfl
  have g5 : DataW.trod enc Try.prog w 0 (fun _ => true) true n 43 ((cs.drop 5).take (Try.prog.cellsOf 43)) = ys[5]? := hf 5 _ rfl
  rw [c5, List.getElem?_eq_getElem (by omega)] at g5
  obtain ⟨z5, e5, _, hw5⟩ := DataW.trod_int Try.underlying43 g5
  have c6 : Try.prog.cellsOf 45 = 6 := by kernel_rfl
  have g6 : DataW.trod enc Try.prog w 0 (fun _ => true) true n 45 ((cs.drop 6).take (Try.prog.cellsOf 45)) = ys[6]? := hf 6 _ rfl
  rw [c6, List.getElem?_eq_getElem (by omega)] at g6
  obtain ⟨st, e6, hw6⟩ := step_ok g6
  have e6' : cs.drop 6 = encStp st := by
    rw [← e6]
    exact (List.take_of_length_le (by rw [List.length_drop]; omega)).symm
  refine ⟨⟨z0, z1, z2, z3, z4, z5, st⟩, ?_, hw4, ⟨I64.of_wf hw0, I64.of_wf hw1, I64.of_wf hw2, I64.of_wf hw3, I64.of_wf hw5, hw6⟩⟩
  have h6 : cs = cs.take 6 ++ cs.drop 6 := (List.take_append_drop 6 cs).symm
  rw [h6, e6']
  have h5 : cs.take 6 = [.int .i64 z0, .int .i64 z1, .int .i64 z2, .int .i64 z3, .string z4, .int .i64 z5] := by
    have hlt : (cs.take 6).length = 6 := by rw [List.length_take]; omega
    refine list6 hlt ?_ ?_ ?_ ?_ ?_ ?_
    · rw [List.getElem?_take, if_pos (by omega)]; exact take1 e0
    · rw [List.getElem?_take, if_pos (by omega)]; exact take1 e1
    · rw [List.getElem?_take, if_pos (by omega)]; exact take1 e2
    · rw [List.getElem?_take, if_pos (by omega)]; exact take1 e3
    · rw [List.getElem?_take, if_pos (by omega)]; exact take1 e4
    · rw [List.getElem?_take, if_pos (by omega)]; exact take1 e5
  rw [h5]
  rfl
set_option maxRecDepth 100000 in
theorem open_evs2 {H : Type} {enc : TypeId × Value → H} {w : World} {v : Value} {d : DataW H} {p : List MemPlace} (hv : ∃ a n c, v = .slice a n c) (h : DataW.Trod enc Try.prog w 0 (fun _ => true) true 22 v d p) :
    ∃ (A : Option Addr) (c : Nat) (l : List Ev), v = .slice A l.length c ∧ l.length ≤ c ∧ c ≤ maxLen ∧ Rd w NoBlk A (flat encEv l) ∧ ∀ x ∈ l, x.s.size ≤ maxLen ∧ EvOk x := by
  obtain ⟨A, n, c, xs, hv', hl, hnc, hcm, hr, hq, _⟩ := open_rows (sz := 12) (Q := fun cs => ∃ a : Ev, cs = encEv a ∧ a.s.size ≤ maxLen ∧ EvOk a) Try.underlying22 (by kernel_rfl) (by omega) hv h (fun fuel cs x hx => ev_ok hx)
  obtain ⟨l, hxl, hok⟩ := exists_map (enc := encEv) xs (fun x hx => (hq x hx).2)
  subst hxl
  have hln : l.length = n := by simpa using hl
  subst hln
  exact ⟨A, c, l, hv', hnc, hcm, hr, hok⟩
end Go.Proofs.Ytgfogoplmokilaa
