/- A list of calls of a purse, as an argument. Conditions: those of each theorem. -/
import Derived.Test.YtmkbhejbbhikcaaOpen
namespace Go.Proofs.Ytmkbhejbbhikcaa
open Go.ChangeShapes Go.WideShapes Go.ChangeAt Go.RowKit Go.Deep

theorem list3 {α : Type} {l : List α} {a b c : α} (h : l.length = 3) (h0 : l[0]? = some a) (h1 : l[1]? = some b) (h2 : l[2]? = some c) : l = [a, b, c] := by
  match l, h with
  | [x, y, z], _ => simp at h0 h1 h2; rw [h0, h1, h2]
def Wide (n : Int) : Prop := -9223372036854775808 ≤ n ∧ n ≤ 9223372036854775807
theorem wide_of {n : Int} (h : (Lit.int .i64 n).wf = true) : Wide n := by
  have := bounds_i64 h
  unfold Wide; omega
structure Act3 where
  k : Int
  i : Int
  n : Int
def enc3 (a : Act3) : List Value := [.int .i64 a.k, .int .i64 a.i, .int .i64 a.n]
def Act3.Ok (a : Act3) : Prop := Wide a.k ∧ Wide a.i ∧ Wide a.n
theorem enc3_len (a : Act3) : (enc3 a).length = 3 := rfl
def actAt (l : List Act3) (k : Nat) : Act3 := l.getD k ⟨0, 0, 0⟩
theorem acts_at (l : List Act3) (k : Nat) (h : k < l.length) : (flat enc3 l)[k * 3]? = some (.int .i64 (actAt l k).k) ∧ (flat enc3 l)[k * 3 + 1]? = some (.int .i64 (actAt l k).i) ∧ (flat enc3 l)[k * 3 + 2]? = some (.int .i64 (actAt l k).n) := by
  have hk : l[k]? = some (actAt l k) := by simp [actAt, List.getD, h]
  exact ⟨flat_at enc3 3 enc3_len l k 0 _ hk (by omega), flat_at enc3 3 enc3_len l k 1 _ hk (by omega), flat_at enc3 3 enc3_len l k 2 _ hk (by omega)⟩

section
variable {H : Type} {enc : TypeId × Value → H} {w : World}
theorem ints3 {t : TypeId} {fs : Array Field} {fuel : Nat} {cs : List Value} {x : DataW H × List MemPlace} {sp : Nat → Bool} (hs : Try.prog.underlying t = some (.struct fs)) (hone : oneCellFields Try.prog fs = true) (hC : Try.prog.cellsOf t = fs.size) (hn : fs.size = 3)
    (hi : ∀ (j : Nat) (f : Field), fs[j]? = some f → Try.prog.underlying f.type = some (.int .i64)) (h : DataW.trod enc Try.prog w 0 sp true fuel t cs = some x) : ∃ a : Act3, cs = enc3 a ∧ a.Ok := by
  obtain ⟨hl, hf⟩ := struct_cells hs hone hC h
  have get : ∀ j, j < 3 → ∃ n : Int, cs[j]? = some (.int .i64 n) ∧ Wide n := by
    intro j hj
    have hfj : fs[j]? = some (fs[j]'(by omega)) := Array.getElem?_eq_getElem (by omega)
    obtain ⟨v, y, n, hv, ht⟩ := hf j _ hfj
    obtain ⟨k, hc, _, hw⟩ := DataW.trod_int (hi j _ hfj) ht
    injection hc with hc _
    exact ⟨k, by rw [hv, hc], wide_of hw⟩
  obtain ⟨a, ha, wa⟩ := get 0 (by omega)
  obtain ⟨b, hb, wb⟩ := get 1 (by omega)
  obtain ⟨c, hc, wc⟩ := get 2 (by omega)
  refine ⟨⟨a, b, c⟩, ?_, wa, wb, wc⟩
  rw [hn] at hl
  exact list3 hl ha hb hc
end
/-- 'acts []Act' of purses or turns (a struct of three ints) -/
theorem open_acts {H : Type} {enc : TypeId × Value → H} {w : World} {t e : TypeId} {fs : Array Field} {v : Value} {d : DataW H} {p : List MemPlace} (ht : Try.prog.underlying t = some (.slice e)) (hs : Try.prog.underlying e = some (.struct fs)) (hone : oneCellFields Try.prog fs = true) (hC : Try.prog.cellsOf e = fs.size) (hn : fs.size = 3)
    (hi : ∀ (j : Nat) (f : Field), fs[j]? = some f → Try.prog.underlying f.type = some (.int .i64)) (hv : ∃ a n c, v = .slice a n c)
    (h : DataW.Trod enc Try.prog w 0 (fun _ => true) true t v d p) :
    ∃ (A : Option Addr) (c : Nat) (l : List Act3), v = .slice A l.length c ∧ l.length ≤ c ∧ c ≤ maxLen ∧ Rd w NoBlk A (flat enc3 l) ∧ ∀ a ∈ l, a.Ok := by
  obtain ⟨A, n, c, xs, hv', hl, hnc, hcm, hr, hq, _⟩ := open_rows (Q := fun cs => ∃ a : Act3, cs = enc3 a ∧ a.Ok) ht (hC.trans hn) (by omega) hv h (fun fuel cs x hx => ints3 hs hone hC hn hi hx)
  obtain ⟨l, hxl, hok⟩ := exists_map xs (fun x hx => (hq x hx).2)
  subst hxl
  have hln : l.length = n := by simpa using hl
  subst hln
  exact ⟨A, c, l, hv', hnc, hcm, hr, hok⟩
end Go.Proofs.Ytmkbhejbbhikcaa
