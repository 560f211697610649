/- A list of calls of a row, as an argument. Conditions: those of each theorem. -/
import Derived.Test.YtmkbhejbbhikcaaFifoPlaysW
namespace Go.Proofs.Ytmkbhejbbhikcaa
open Go.ChangeShapes Go.WideShapes Go.ChangeAt Go.RowKit Go.Deep
theorem list2 {α : Type} {l : List α} {a b : α} (h : l.length = 2) (h0 : l[0]? = some a) (h1 : l[1]? = some b) : l = [a, b] := by
  match l, h with
  | [x, y], _ => simp at h0 h1; rw [h0, h1]
theorem ints2 {H : Type} {enc : TypeId × Value → H} {w : World} {t : TypeId} {fs : Array Field} {fuel : Nat} {cs : List Value} {x : DataW H × List MemPlace} {sp : Nat → Bool} (hs : Try.prog.underlying t = some (.struct fs)) (hone : oneCellFields Try.prog fs = true) (hC : Try.prog.cellsOf t = fs.size) (hn : fs.size = 2)
    (hi : ∀ (j : Nat) (f : Field), fs[j]? = some f → Try.prog.underlying f.type = some (.int .i64)) (h : DataW.trod enc Try.prog w 0 sp true fuel t cs = some x) : ∃ a : Act2, cs = enc2 a ∧ True := by
  obtain ⟨hl, hf⟩ := struct_cells hs hone hC h
  have get : ∀ j, j < 2 → ∃ n : Int, cs[j]? = some (.int .i64 n) := by
    intro j hj
    have hfj : fs[j]? = some (fs[j]'(by omega)) := Array.getElem?_eq_getElem (by omega)
    obtain ⟨v, y, n, hv, ht⟩ := hf j _ hfj
    obtain ⟨k, hc, _, hw⟩ := DataW.trod_int (hi j _ hfj) ht
    injection hc with hc _
    exact ⟨k, by rw [hv, hc]⟩
  obtain ⟨a, ha⟩ := get 0 (by omega)
  obtain ⟨b, hb⟩ := get 1 (by omega)
  refine ⟨⟨a, b⟩, ?_, trivial⟩
  rw [hn] at hl
  exact list2 hl ha hb
theorem open_acts2 {H : Type} {enc : TypeId × Value → H} {w : World} {t e : TypeId} {fs : Array Field} {v : Value} {d : DataW H} {p : List MemPlace} (ht : Try.prog.underlying t = some (.slice e)) (hs : Try.prog.underlying e = some (.struct fs)) (hone : oneCellFields Try.prog fs = true) (hC : Try.prog.cellsOf e = fs.size) (hn : fs.size = 2)
    (hi : ∀ (j : Nat) (f : Field), fs[j]? = some f → Try.prog.underlying f.type = some (.int .i64)) (hv : ∃ a n c, v = .slice a n c)
    (h : DataW.Trod enc Try.prog w 0 (fun _ => true) true t v d p) :
    ∃ (A : Option Addr) (c : Nat) (l : List Act2), v = .slice A l.length c ∧ l.length ≤ c ∧ c ≤ maxLen ∧ Rd w NoBlk A (flat enc2 l) := by
  obtain ⟨A, n, c, xs, hv', hl, hnc, hcm, hr, hq, _⟩ := open_rows (Q := fun cs => ∃ a : Act2, cs = enc2 a ∧ True) ht (hC.trans hn) (by omega) hv h (fun fuel cs x hx => ints2 hs hone hC hn hi hx)
  obtain ⟨l, hxl, _⟩ := exists_map xs (fun x hx => (hq x hx).2)
  subst hxl
  have hln : l.length = n := by simpa using hl
  subst hln
  exact ⟨A, c, l, hv', hnc, hcm, hr⟩
end Go.Proofs.Ytmkbhejbbhikcaa
