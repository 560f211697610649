/- A list of bytes as numbers, as an argument. Conditions: those of each theorem. -/
import Derived.Test.YtmkbhejbbhikcaaFifoOrdersW
namespace Go.Proofs.Ytmkbhejbbhikcaa
open Go.ChangeShapes Go.WideShapes Go.ChangeAt Go.RowKit Go.Deep
theorem u8s_flat (l : List Int) : (l.map fun a : Int => [Value.int .u8 a]).flatten = u8s l := by
  induction l with
  | nil => rfl
  | cons a l ih => simp only [List.map_cons, List.flatten_cons, u8s]; rw [ih]; rfl
theorem open_u8s {H : Type} {enc : TypeId × Value → H} {w : World} {t e : TypeId} {v : Value} {d : DataW H} {p : List MemPlace} (ht : Try.prog.underlying t = some (.slice e)) (he : Try.prog.underlying e = some (.int .u8)) (hC : Try.prog.cellsOf e = 1)
    (hv : ∃ a n c, v = .slice a n c) (h : DataW.Trod enc Try.prog w 0 (fun _ => true) true t v d p) :
    ∃ (A : Option Addr) (c : Nat) (l : List Int), v = .slice A l.length c ∧ l.length ≤ c ∧ c ≤ maxLen ∧ Rd w NoBlk A (u8s l) ∧ ∀ k, k < l.length → 0 ≤ nth l k ∧ nth l k ≤ 255 := by
  obtain ⟨A, n, c, xs, hv', hl, hnc, hcm, hr, hq, _⟩ := open_rows (Q := fun cs => ∃ a : Int, cs = [Value.int .u8 a] ∧ 0 ≤ a ∧ a ≤ 255) ht hC (by omega) hv h (fun fuel cs x hx => by
    obtain ⟨k, hc, _, hw⟩ := DataW.trod_int he hx
    have := bounds_u8 hw
    exact ⟨k, hc, this⟩)
  obtain ⟨l, hxl, hok⟩ := exists_map (enc := fun a : Int => [Value.int .u8 a]) xs (fun x hx => (hq x hx).2)
  subst hxl
  have hln : l.length = n := by simpa using hl
  subst hln
  have hfl := u8s_flat l
  rw [hfl] at hr
  exact ⟨A, c, l, hv', hnc, hcm, hr, fun k hk => by rw [nth_of_lt hk]; exact hok _ (List.getElem_mem _)⟩
end Go.Proofs.Ytmkbhejbbhikcaa
