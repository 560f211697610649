/- Texts, and lists of calls with texts, as arguments. Conditions: those of each theorem. -/
import Derived.Test.YtmkbhejbbhikcaaOpen
import Derived.Test.YtmkbhejbbhikcaaRing4
import Derived.ChangeMaps5
namespace Go.Proofs.Ytmkbhejbbhikcaa
open Go.ChangeShapes Go.WideShapes Go.ChangeAt Go.RowKit Go.Deep
def strs (l : List ByteArray) : List Value := l.map Value.string
theorem strs_flat (l : List ByteArray) : (l.map fun a : ByteArray => [Value.string a]).flatten = strs l := by
  induction l with
  | nil => rfl
  | cons a l ih => simp only [List.map_cons, List.flatten_cons, strs]; rw [ih]; rfl
def nthS (l : List ByteArray) (k : Nat) : ByteArray := l.getD k ⟨#[]⟩
theorem strs_at (l : List ByteArray) (k : Nat) (h : k < l.length) : (strs l)[k]? = some (.string (nthS l k)) := by simp [strs, nthS, List.getD, h]
theorem open_texts {H : Type} {enc : TypeId × Value → H} {w : World} {t e : TypeId} {v : Value} {d : DataW H} {p : List MemPlace} (ht : Try.prog.underlying t = some (.slice e)) (he : Try.prog.underlying e = some .string) (hC : Try.prog.cellsOf e = 1)
    (hv : ∃ a n c, v = .slice a n c) (h : DataW.Trod enc Try.prog w 0 (fun _ => true) true t v d p) :
    ∃ (A : Option Addr) (c : Nat) (l : List ByteArray), v = .slice A l.length c ∧ l.length ≤ c ∧ c ≤ maxLen ∧ Rd w NoBlk A (strs l) ∧ ∀ k, k < l.length → (nthS l k).size ≤ maxLen := by
  obtain ⟨A, n, c, xs, hv', hl, hnc, hcm, hr, hq, _⟩ := open_rows (Q := fun cs => ∃ a : ByteArray, cs = [Value.string a] ∧ a.size ≤ maxLen) ht hC (by omega) hv h (fun fuel cs x hx => by
    obtain ⟨s, hc, _, hw⟩ := DataW.trod_string he hx
    exact ⟨s, hc, hw⟩)
  obtain ⟨l, hxl, hok⟩ := exists_map (enc := fun a : ByteArray => [Value.string a]) xs (fun x hx => (hq x hx).2)
  subst hxl
  have hln : l.length = n := by simpa using hl
  subst hln
  have hfl := strs_flat l
  rw [hfl] at hr
  exact ⟨A, c, l, hv', hnc, hcm, hr, fun k hk => by
    have e : nthS l k = l[k] := by simp [nthS, List.getD, hk]
    rw [e]; exact hok _ (List.getElem_mem _)⟩
/-- a call of a ring: kind, text, number -/
structure ActS where
  k : Int
  s : ByteArray
  n : Int
def encS (a : ActS) : List Value := [.int .i64 a.k, .string a.s, .int .i64 a.n]
theorem encS_len (a : ActS) : (encS a).length = 3 := rfl
def actSAt (l : List ActS) (k : Nat) : ActS := l.getD k ⟨0, ⟨#[]⟩, 0⟩
theorem actsS_at (l : List ActS) (k : Nat) (h : k < l.length) : (flat encS l)[k * 3]? = some (.int .i64 (actSAt l k).k) ∧ (flat encS l)[k * 3 + 1]? = some (.string (actSAt l k).s) ∧ (flat encS l)[k * 3 + 2]? = some (.int .i64 (actSAt l k).n) := by
  have e : l[k]? = some (actSAt l k) := by simp [actSAt, List.getD, h]
  exact ⟨flat_at encS 3 encS_len l k 0 _ e (by omega), flat_at encS 3 encS_len l k 1 _ e (by omega), flat_at encS 3 encS_len l k 2 _ e (by omega)⟩
theorem list3 {α : Type} {l : List α} {a b c : α} (h : l.length = 3) (h0 : l[0]? = some a) (h1 : l[1]? = some b) (h2 : l[2]? = some c) : l = [a, b, c] := by
  match l, h with
  | [x, y, z], _ => simp at h0 h1 h2; rw [h0, h1, h2]
theorem open_actsS {H : Type} {enc : TypeId × Value → H} {w : World} {t e : TypeId} {fs : Array Field} {v : Value} {d : DataW H} {p : List MemPlace} (ht : Try.prog.underlying t = some (.slice e)) (hs : Try.prog.underlying e = some (.struct fs)) (hone : oneCellFields Try.prog fs = true) (hC : Try.prog.cellsOf e = fs.size) (hn : fs.size = 3)
    (f0 : ∀ f, fs[0]? = some f → Try.prog.underlying f.type = some (.int .i64)) (f1 : ∀ f, fs[1]? = some f → Try.prog.underlying f.type = some .string) (f2 : ∀ f, fs[2]? = some f → Try.prog.underlying f.type = some (.int .i64)) (hv : ∃ a n c, v = .slice a n c)
    (h : DataW.Trod enc Try.prog w 0 (fun _ => true) true t v d p) :
    ∃ (A : Option Addr) (c : Nat) (l : List ActS), v = .slice A l.length c ∧ l.length ≤ c ∧ c ≤ maxLen ∧ Rd w NoBlk A (flat encS l) ∧ ∀ k, k < l.length → (actSAt l k).s.size ≤ maxLen := by
  obtain ⟨A, n, c, xs, hv', hl, hnc, hcm, hr, hq, _⟩ := open_rows (Q := fun cs => ∃ a : ActS, cs = encS a ∧ a.s.size ≤ maxLen) ht (hC.trans hn) (by omega) hv h (fun fuel cs x hx => by
    obtain ⟨hl, hf⟩ := struct_cells hs hone hC hx
    obtain ⟨v0, y0, n0, hv0, ht0⟩ := hf 0 _ (Array.getElem?_eq_getElem (by omega))
    obtain ⟨v1, y1, n1, hv1, ht1⟩ := hf 1 _ (Array.getElem?_eq_getElem (by omega))
    obtain ⟨v2, y2, n2, hv2, ht2⟩ := hf 2 _ (Array.getElem?_eq_getElem (by omega))
    obtain ⟨k0, hc0, _, _⟩ := DataW.trod_int (f0 _ (Array.getElem?_eq_getElem (by omega))) ht0
    obtain ⟨s1, hc1, _, hw1⟩ := DataW.trod_string (f1 _ (Array.getElem?_eq_getElem (by omega))) ht1
    obtain ⟨k2, hc2, _, _⟩ := DataW.trod_int (f2 _ (Array.getElem?_eq_getElem (by omega))) ht2
    injection hc0 with hc0 _
    injection hc1 with hc1 _
    injection hc2 with hc2 _
    subst hc0 hc1 hc2
    rw [hn] at hl
    exact ⟨⟨k0, s1, k2⟩, list3 hl hv0 hv1 hv2, hw1⟩)
  obtain ⟨l, hxl, hok⟩ := exists_map (enc := encS) xs (fun x hx => (hq x hx).2)
  subst hxl
  have hln : l.length = n := by simpa using hl
  subst hln
  exact ⟨A, c, l, hv', hnc, hcm, hr, fun k hk => by
    have e : actSAt l k = l[k] := by simp [actSAt, List.getD, hk]
    rw [e]; exact hok _ (List.getElem_mem _)⟩
end Go.Proofs.Ytmkbhejbbhikcaa
