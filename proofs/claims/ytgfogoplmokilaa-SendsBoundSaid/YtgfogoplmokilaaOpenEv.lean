/- A list of events as an argument. Conditions: those of each theorem. -/
import Derived.Test.YtgfogoplmokilaaLaw
import Derived.Test.YtgfogoplmokilaaOpen
namespace Go.Proofs.Ytgfogoplmokilaa
open Go.ChangeShapes Go.WideShapes Go.ChangeAt Go.RowKit Go.Deep
theorem flat_cells {α : Type} {enc : α → List Value} {n : Nat} (hn : ∀ a, (enc a).length = n) {l : List α} {w : World} {M : Nat → Prop} {A : Option Addr} (hr : Rd w M A (flat enc l)) (k : Nat) (a : α) (hk : l[k]? = some a) (h0 : 0 < n) :
    ∃ b o, A = some ⟨b, o, none⟩ ∧ ¬ M b ∧ b < w.heap.size ∧ ∀ j, j < n → w.cell? ⟨b, o + k * n + j, none⟩ = (enc a)[j]? := by
  have hkl : k < l.length := (List.getElem?_eq_some_iff.1 hk).1
  have hfl := flat_len enc n hn l
  have h1 : k * n + n ≤ l.length * n := by
    rw [← Nat.succ_mul]
    exact Nat.mul_le_mul_right n hkl
  obtain ⟨b, o, hA, hm, hb, hc⟩ := hr.at_ (j := k * n) (by omega)
  refine ⟨b, o, hA, hm, hb, fun j hj => ?_⟩
  rw [Nat.add_assoc, hc (k * n + j) (by omega)]
  exact flat_at enc n hn l k j a hk hj
def intOfV : Value → Int
  | .int _ n => n
  | _ => 0
section
variable {H : Type} {enc : TypeId × Value → H} {P : Program} {w : World}
theorem all_ints {t : TypeId} {fs : Array Field} {fuel : Nat} {cs : List Value} {x : DataW H × List MemPlace} {base : Nat} {spare : Nat → Bool} {held : Bool} (hs : P.underlying t = some (.struct fs)) (hone : oneCellFields P fs = true) (hC : P.cellsOf t = fs.size)
    (hi : ∀ (j : Nat) (f : Field), fs[j]? = some f → P.underlying f.type = some (.int .i64)) (h : DataW.trod enc P w base spare held fuel t cs = some x) :
    cs.length = fs.size ∧ ∀ j, j < fs.size → cs[j]? = some (.int .i64 (intOfV (cs.getD j undef))) := by
  obtain ⟨hl, hf⟩ := struct_cells hs hone hC h
  refine ⟨hl, fun j hj => ?_⟩
  have hfj : fs[j]? = some (fs[j]'hj) := Array.getElem?_eq_getElem hj
  obtain ⟨v, y, n, hv, ht⟩ := hf j _ hfj
  obtain ⟨k, hc, _, _⟩ := DataW.trod_int (hi j _ hfj) ht
  injection hc with hc _
  subst hc
  rw [hv]
  simp [List.getD, hv, intOfV]
end
theorem list6 {α : Type} {l : List α} {a b c d e f : α} (h : l.length = 6) (h0 : l[0]? = some a) (h1 : l[1]? = some b) (h2 : l[2]? = some c) (h3 : l[3]? = some d) (h4 : l[4]? = some e) (h5 : l[5]? = some f) : l = [a, b, c, d, e, f] := by
  match l, h with
  | [x0, x1, x2, x3, x4, x5], _ => simp at h0 h1 h2 h3 h4 h5; rw [h0, h1, h2, h3, h4, h5]
set_option maxRecDepth 100000 in
theorem step_of {H : Type} {enc : TypeId × Value → H} {w : World} {fuel : Nat} {cs : List Value} {x : DataW H × List MemPlace} (h : DataW.trod enc Try.prog w 0 (fun _ => true) true fuel 45 cs = some x) : ∃ s : Stp, cs = encStp s := by
  obtain ⟨hl, hf⟩ := all_ints (fs := _) Try.underlying45 (by kernel_rfl) (by kernel_rfl) (by
    intro j f hf
    rcases j with _ | _ | _ | _ | _ | _ | j
    · injection hf with hf; subst hf; exact Try.underlying2
    · injection hf with hf; subst hf; exact Try.underlying3
    · injection hf with hf; subst hf; exact Try.underlying3
    · injection hf with hf; subst hf; exact Try.underlying3
    · injection hf with hf; subst hf; exact Try.underlying3
    · injection hf with hf; subst hf; exact Try.underlying3
    · simp at hf) h
  exact ⟨⟨_, _, _, _, _, _⟩, list6 hl (hf 0 (by decide)) (hf 1 (by decide)) (hf 2 (by decide)) (hf 3 (by decide)) (hf 4 (by decide)) (hf 5 (by decide))⟩
theorem take1 {α : Type} {l : List α} {i : Nat} {v : α} (h : (l.drop i).take 1 = [v]) : l[i]? = some v := by
  have h1 := congrArg (fun l => l[0]?) h
  simp only [List.getElem?_take, List.getElem?_drop, List.getElem?_cons_zero] at h1
  simpa using h1
set_option maxRecDepth 100000 in
theorem ev_of {H : Type} {enc : TypeId × Value → H} {w : World} {fuel : Nat} {cs : List Value} {x : DataW H × List MemPlace} (h : DataW.trod enc Try.prog w 0 (fun _ => true) true fuel 47 cs = some x) : ∃ e : Ev, cs = encEv e ∧ e.s.size ≤ maxLen := by
  obtain ⟨ys, n, _, _, hl, hyl0, hf⟩ := DataW.trod_struct Try.underlying47 h
  have hC : Try.prog.cellsOf 47 = 12 := by kernel_rfl
  rw [hC] at hl
  have hyl : ys.length = 7 := hyl0
  have c0 : Try.prog.cellsOf 3 = 1 := by kernel_rfl
  have g0 : DataW.trod enc Try.prog w 0 (fun _ => true) true n 3 ((cs.drop 0).take (Try.prog.cellsOf 3)) = ys[0]? := hf 0 _ rfl
  rw [c0, List.getElem?_eq_getElem (by omega)] at g0
  obtain ⟨z0, e0, _, _⟩ := DataW.trod_int Try.underlying3 g0
  have c1 : Try.prog.cellsOf 3 = 1 := by kernel_rfl
  have g1 : DataW.trod enc Try.prog w 0 (fun _ => true) true n 3 ((cs.drop 1).take (Try.prog.cellsOf 3)) = ys[1]? := hf 1 _ rfl
  rw [c1, List.getElem?_eq_getElem (by omega)] at g1
  obtain ⟨z1, e1, _, _⟩ := DataW.trod_int Try.underlying3 g1
  have c2 : Try.prog.cellsOf 3 = 1 := by kernel_rfl
  have g2 : DataW.trod enc Try.prog w 0 (fun _ => true) true n 3 ((cs.drop 2).take (Try.prog.cellsOf 3)) = ys[2]? := hf 2 _ rfl
  rw [c2, List.getElem?_eq_getElem (by omega)] at g2
  obtain ⟨z2, e2, _, _⟩ := DataW.trod_int Try.underlying3 g2
  have c3 : Try.prog.cellsOf 2 = 1 := by kernel_rfl
  have g3 : DataW.trod enc Try.prog w 0 (fun _ => true) true n 2 ((cs.drop 3).take (Try.prog.cellsOf 2)) = ys[3]? := hf 3 _ rfl
  rw [c3, List.getElem?_eq_getElem (by omega)] at g3
  obtain ⟨z3, e3, _, _⟩ := DataW.trod_int Try.underlying2 g3
  have c4 : Try.prog.cellsOf 9 = 1 := by kernel_rfl
  have g4 : DataW.trod enc Try.prog w 0 (fun _ => true) true n 9 ((cs.drop 4).take (Try.prog.cellsOf 9)) = ys[4]? := hf 4 _ rfl
  rw [c4, List.getElem?_eq_getElem (by omega)] at g4
  obtain ⟨z4, e4, _, hw4⟩ := DataW.trod_string Try.underlying9 g4
  have c5 : Try.prog.cellsOf 43 = 1 := by kernel_rfl
  have g5 : DataW.trod enc Try.prog w 0 (fun _ => true) true n 43 ((cs.drop 5).take (Try.prog.cellsOf 43)) = ys[5]? := hf 5 _ rfl
  rw [c5, List.getElem?_eq_getElem (by omega)] at g5
  obtain ⟨z5, e5, _, _⟩ := DataW.trod_int Try.underlying43 g5
  have c6 : Try.prog.cellsOf 45 = 6 := by kernel_rfl
  have g6 : DataW.trod enc Try.prog w 0 (fun _ => true) true n 45 ((cs.drop 6).take (Try.prog.cellsOf 45)) = ys[6]? := hf 6 _ rfl
  rw [c6, List.getElem?_eq_getElem (by omega)] at g6
  obtain ⟨st, e6⟩ := step_of g6
  have e6' : cs.drop 6 = encStp st := by
    rw [← e6]
    exact (List.take_of_length_le (by rw [List.length_drop]; omega)).symm
  refine ⟨⟨z0, z1, z2, z3, z4, z5, st⟩, ?_, hw4⟩
  have h6 : cs = cs.take 6 ++ cs.drop 6 := (List.take_append_drop 6 cs).symm
  rw [h6, e6']
  have h5 : cs.take 6 = [.int .i64 z0, .int .i64 z1, .int .i64 z2, .int .i64 z3, .string z4, .int .i64 z5] := by
    have hlt : (cs.take 6).length = 6 := by rw [List.length_take]; omega
    refine list6 hlt ?_ ?_ ?_ ?_ ?_ ?_
    · rw [List.getElem?_take, if_pos (by omega)]; exact take1 e0
    · rw [List.getElem?_take, if_pos (by omega)]; exact take1 e1
    · rw [List.getElem?_take, if_pos (by omega)]; exact take1 e2
    · rw [List.getElem?_take, if_pos (by omega)]; exact take1 e3
    · rw [List.getElem?_take, if_pos (by omega)]; exact take1 e4
    · rw [List.getElem?_take, if_pos (by omega)]; exact take1 e5
  rw [h5]
  rfl
def evD : Ev := ⟨0, 0, 0, 0, ⟨#[]⟩, 0, ⟨0, 0, 0, 0, 0, 0⟩⟩
def evAt (l : List Ev) (k : Nat) : Ev := l.getD k evD
theorem evAt_some {l : List Ev} {k : Nat} (h : k < l.length) : l[k]? = some (evAt l k) := by simp [evAt, List.getD, h]
set_option maxRecDepth 100000 in
theorem open_evs {H : Type} {enc : TypeId × Value → H} {w : World} {v : Value} {d : DataW H} {p : List MemPlace} (hv : ∃ a n c, v = .slice a n c) (h : DataW.Trod enc Try.prog w 0 (fun _ => true) true 22 v d p) :
    ∃ (A : Option Addr) (c : Nat) (l : List Ev), v = .slice A l.length c ∧ l.length ≤ c ∧ c ≤ maxLen ∧ Rd w NoBlk A (flat encEv l) ∧ ∀ x ∈ l, x.s.size ≤ maxLen := by
  obtain ⟨A, n, c, xs, hv', hl, hnc, hcm, hr, hq, _⟩ := open_rows (sz := 12) (Q := fun cs => ∃ a : Ev, cs = encEv a ∧ a.s.size ≤ maxLen) Try.underlying22 (by kernel_rfl) (by omega) hv h (fun fuel cs x hx => ev_of hx)
  obtain ⟨l, hxl, hok⟩ := exists_map (enc := encEv) xs (fun x hx => (hq x hx).2)
  subst hxl
  have hln : l.length = n := by simpa using hl
  subst hln
  exact ⟨A, c, l, hv', hnc, hcm, hr, hok⟩
end Go.Proofs.Ytgfogoplmokilaa
