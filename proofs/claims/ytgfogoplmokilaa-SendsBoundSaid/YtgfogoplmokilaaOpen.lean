/- Arguments opened: a slice of structs reads as a list. Conditions: those of each theorem. -/
import Derived.Test.YtgfogoplmokilaaLaw
import Derived.Deep.Slices
import Derived.Deep.Fields
import Derived.ChangeSame
namespace Go.Proofs.Ytgfogoplmokilaa
open Go.ChangeShapes Go.WideShapes Go.ChangeAt Go.RowKit Go.Deep

def flat {α : Type} (enc : α → List Value) (l : List α) : List Value := (l.map enc).flatten
theorem flat_nil {α : Type} (enc : α → List Value) : flat enc [] = [] := rfl
theorem flat_cons {α : Type} (enc : α → List Value) (a : α) (l : List α) : flat enc (a :: l) = enc a ++ flat enc l := rfl
theorem flat_append {α : Type} (enc : α → List Value) (a b : List α) : flat enc (a ++ b) = flat enc a ++ flat enc b := by simp [flat]
theorem flat_len {α : Type} (enc : α → List Value) (n : Nat) (h : ∀ a, (enc a).length = n) (l : List α) : (flat enc l).length = l.length * n := by
  induction l with
  | nil => simp [flat]
  | cons a l ih => rw [flat_cons, List.length_append, h, ih, List.length_cons, Nat.add_mul]; omega
theorem flat_at {α : Type} (enc : α → List Value) (n : Nat) (h : ∀ a, (enc a).length = n) : ∀ (l : List α) (k j : Nat) (a : α), l[k]? = some a → j < n → (flat enc l)[k * n + j]? = (enc a)[j]?
  | [], k, j, a, hk, _ => by simp at hk
  | b :: l, 0, j, a, hk, hj => by
    simp at hk
    subst hk
    rw [flat_cons, List.getElem?_append_left (by rw [h]; omega)]
    simp
  | b :: l, k + 1, j, a, hk, hj => by
    have hk' : l[k]? = some a := by simpa using hk
    rw [flat_cons, List.getElem?_append_right (by rw [h, Nat.add_mul]; omega), h, ← flat_at enc n h l k j a hk' hj]
    congr 1
    rw [Nat.add_mul]; omega
theorem exists_map {α : Type} {enc : α → List Value} {ok : α → Prop} : ∀ (xs : List (List Value)), (∀ x ∈ xs, ∃ a, x = enc a ∧ ok a) → ∃ l : List α, xs = l.map enc ∧ ∀ a ∈ l, ok a
  | [], _ => ⟨[], rfl, by simp⟩
  | x :: xs, h => by
    obtain ⟨a, ha, oka⟩ := h x (by simp)
    obtain ⟨l, hl, okl⟩ := exists_map xs (fun y hy => h y (by simp [hy]))
    exact ⟨a :: l, by rw [ha, hl]; rfl, by simp; exact ⟨oka, okl⟩⟩

section
variable {H : Type} {enc : TypeId × Value → H} {P : Program} {w : World}
theorem spot_none {a : Addr} {v : Value} (h : w.cell? a = some v) : a.spot = none := by
  unfold World.cell? at h
  split at h
  · split at h
    · cases h
    · rename_i hs
      simpa using hs
  · cases h
theorem add_block (a : Addr) (n : Nat) : (a.add n).block = a.block := by unfold Addr.add; split <;> rfl

/-- an argument that is a slice: its elements' cells, each as Q says -/
theorem open_rows {t e : TypeId} {v : Value} {d : DataW H} {p : List MemPlace} {sz : Nat} {Q : List Value → Prop} (ht : P.underlying t = some (.slice e)) (hsz : P.cellsOf e = sz) (hpos : 0 < sz)
    (hv : ∃ a n c, v = .slice a n c) (h : DataW.Trod enc P w 0 (fun _ => true) true t v d p) (hQ : ∀ fuel cs x, DataW.trod enc P w 0 (fun _ => true) true fuel e cs = some x → Q cs) :
    ∃ (A : Option Addr) (n c : Nat) (xs : List (List Value)), v = .slice A n c ∧ xs.length = n ∧ n ≤ c ∧ c ≤ maxLen ∧ Rd w NoBlk A xs.flatten ∧ (∀ x ∈ xs, x.length = sz ∧ Q x) ∧
      (d = .nil ∧ n = 0 ∨ ∃ el sp, d = .slice el sp ∧ el.length = n) := by
  obtain ⟨a0, n0, c0, rfl⟩ := hv
  obtain ⟨fuel, hf⟩ := h
  rcases open_slice ht hf with ⟨hcs, hx⟩ | ⟨a, len, cap, m, n, D, Pl, hcs, _, hl, hm, hmm, hx, hi⟩
  · have e0 : Value.slice a0 n0 c0 = .slice none 0 0 := by simpa [Value.cells] using hcs
    injection e0 with e1 e2 e3
    subst e1 e2 e3
    simp only [Prod.mk.injEq] at hx
    exact ⟨none, 0, 0, [], rfl, rfl, Nat.le_refl _, by simp [maxLen], Or.inl rfl, by simp, Or.inl ⟨hx.1, rfl⟩⟩
  · have e0 : Value.slice a0 n0 c0 = .slice (some a) len cap := by simpa [Value.cells] using hcs
    injection e0 with e1 e2 e3
    subst e1 e2 e3
    have hm' : m = c0 := by simpa using hmm
    have hcell : ∀ i, i < n0 → ∃ cs', w.cells? 0 (a.add (i * sz)) sz = some cs' ∧ cs'.length = sz ∧ Q cs' ∧ ∀ j, j < sz → w.cell? (a.add (i * sz + j)) = cs'[j]? := by
      intro i hlt
      obtain ⟨cs', hc, ht'⟩ := hi i (by omega)
      rw [hsz] at hc
      obtain ⟨_, hcl, hat⟩ := World.cells?_some hc
      refine ⟨cs', hc, hcl, hQ _ _ _ ht', fun j hj => ?_⟩
      rw [← Go.Deep.add_add]
      exact hat j hj
    have hxs : ∃ xs : List (List Value), xs.length = n0 ∧ (∀ x ∈ xs, x.length = sz ∧ Q x) ∧ ∀ j, j < n0 * sz → w.cell? (a.add j) = xs.flatten[j]? := by
      clear hi hf hx hcs hm hmm hm' D Pl
      induction n0 with
      | zero => exact ⟨[], rfl, by simp, by simp⟩
      | succ k ih =>
        obtain ⟨xs, h1, h2, h3⟩ := ih (by omega) (fun i hik => hcell i (by omega))
        obtain ⟨cs', _, hcl, hq, hat⟩ := hcell k (by omega)
        refine ⟨xs ++ [cs'], by simp [h1], ?_, fun j hj => ?_⟩
        · intro x hx
          simp only [List.mem_append, List.mem_singleton] at hx
          rcases hx with hx | rfl
          · exact h2 x hx
          · exact ⟨hcl, hq⟩
        · have hfl : xs.flatten.length = k * sz := by
            have := flat_len (fun x : List Value => x.take sz ++ List.replicate (sz - x.length) undef) sz (fun a => by simp; omega) xs
            rw [h1] at this
            rw [← this]
            unfold flat
            congr 1
            congr 1
            have : xs.map (fun x : List Value => x.take sz ++ List.replicate (sz - x.length) undef) = xs.map id := List.map_congr_left (fun x hx => by
              have hl := (h2 x hx).1
              rw [List.take_of_length_le (by omega)]; simp [hl])
            rw [this]; simp
          rw [List.flatten_append]
          by_cases hjk : j < k * sz
          · rw [List.getElem?_append_left (by omega), h3 j hjk]
          · rw [List.getElem?_append_right (by omega), hfl]
            have hs := hat (j - k * sz) (by rw [Nat.add_mul] at hj; omega)
            rw [show k * sz + (j - k * sz) = j by omega] at hs
            rw [hs]; simp
    obtain ⟨xs, h1, h2, h3⟩ := hxs
    refine ⟨some a, n0, c0, xs, rfl, h1, hl, hm, ?_, h2, Or.inr ⟨_, _, by simp only [Prod.mk.injEq] at hx; exact hx.1, by simp⟩⟩
    by_cases hn : n0 = 0
    · subst hn
      have : xs = [] := List.eq_nil_of_length_eq_zero h1
      subst this
      exact Or.inl rfl
    · right
      have hfl : xs.flatten.length = n0 * sz := by
        clear h3 hcell hi hf hx hcs
        subst h1
        clear hl hn hmm
        induction xs with
        | nil => simp
        | cons x xs ih =>
          rw [List.flatten_cons, List.length_append, ih (fun y hy => h2 y (by simp [hy])), (h2 x (by simp)).1, List.length_cons, Nat.add_mul]; omega
      have hp0 : 0 < n0 * sz := Nat.mul_pos (by omega) hpos
      have hc0 := h3 0 hp0
      rw [List.getElem?_eq_getElem (by omega)] at hc0
      have hs := spot_none hc0
      have hblk := World.block_lt_of_cell? w _ hc0
      obtain ⟨b, o, s⟩ := a
      have hs' : s = none := by
        unfold Addr.add at hs
        simpa using hs
      subst hs'
      refine ⟨b, o, rfl, fun h => h, by simpa [add_block] using hblk, fun j hj => ?_⟩
      have := h3 j (by omega)
      rw [Addr.add_lit] at this
      exact this

/-- a struct of one-cell fields: its cells, one a field -/
theorem struct_cells {t : TypeId} {fs : Array Field} {fuel : Nat} {cs : List Value} {x : DataW H × List MemPlace} {base : Nat} {spare : Nat → Bool} {held : Bool} (hs : P.underlying t = some (.struct fs)) (hone : oneCellFields P fs = true) (hC : P.cellsOf t = fs.size)
    (h : DataW.trod enc P w base spare held fuel t cs = some x) :
    cs.length = fs.size ∧ ∀ (i : Nat) (f : Field), fs[i]? = some f → ∃ v y n, cs[i]? = some v ∧ DataW.trod enc P w base spare held n f.type [v] = some y := by
  obtain ⟨ys, n', _, hy, hlen, hyl, hf⟩ := DataW.trod_struct hs h
  refine ⟨by rw [hlen, hC], fun j f hj => ?_⟩
  obtain ⟨ho, hk⟩ := hone_of hone j f hj
  have hjl : j < fs.size := (Array.getElem?_eq_some_iff.1 hj).1
  have h1 := hf j f hj
  rw [ho, hk] at h1
  have hone' : (cs.drop j).take 1 = [cs[j]'(by omega)] := by
    rw [List.drop_eq_getElem_cons (by omega)]
    rfl
  rw [hone'] at h1
  have hys : ys[j]? = some (ys[j]'(by omega)) := List.getElem?_eq_getElem (by omega)
  exact ⟨_, _, n', List.getElem?_eq_getElem (by omega), h1.trans hys⟩
theorem slice_of_cell {t e : TypeId} {v : Value} {n : Nat} {y : DataW H × List MemPlace} (ht : P.underlying t = some (.slice e)) (h : DataW.trod enc P w 0 (fun _ => true) true n t [v] = some y) : ∃ a n c, v = .slice a n c := by
  rcases open_slice ht h with ⟨hcs, _⟩ | ⟨a, len, cap, _, _, _, _, hcs, _⟩
  · injection hcs with hcs _
    exact ⟨_, _, _, hcs⟩
  · injection hcs with hcs _
    exact ⟨_, _, _, hcs⟩
theorem trod_of_cell {t : TypeId} {v : Value} {n : Nat} {y : DataW H × List MemPlace} (hv : ∃ a n c, v = .slice a n c) (h : DataW.trod enc P w 0 (fun _ => true) true n t [v] = some y) : DataW.Trod enc P w 0 (fun _ => true) true t v y.1 y.2 := by
  obtain ⟨a, k, c, rfl⟩ := hv
  exact ⟨n, h⟩
end
end Go.Proofs.Ytgfogoplmokilaa
