/- A row as a list through all numbers, and as a list: plain lists, no program. Conditions: those of each theorem. -/
import Derived.Test.YtmkbhejbbhikcaaMem
namespace Go.Proofs.Ytmkbhejbbhikcaa

structure FifoC where
  nx : List Int
  pv : List Int
  inn : List Bool
  first : Int
  last : Int
  n : Int
def at_ (l : List Int) (x : Int) : Int := nth l x.toNat
def bat (l : List Bool) (x : Int) : Bool := l.getD x.toNat false
theorem at_set {l : List Int} {x y v : Int} (hx : 0 ≤ x) (hy : 0 ≤ y) (hl : y < l.length) : at_ (l.set x.toNat v) y = if x = y then v else at_ l y := by
  unfold at_
  rw [nth_set]
  by_cases h : x = y
  · rw [if_pos ⟨by omega, by omega⟩, if_pos h]
  · rw [if_neg (by omega), if_neg h]
theorem bat_set {l : List Bool} {x y : Int} {v : Bool} (hx : 0 ≤ x) (hy : 0 ≤ y) (hl : y < l.length) : bat (l.set x.toNat v) y = if x = y then v else bat l y := by
  unfold bat
  by_cases h : x = y
  · subst h
    rw [if_pos rfl]
    simp [List.getD, show x.toNat < l.length by omega]
  · rw [if_neg h]
    simp [List.getD, show x.toNat ≠ y.toNat by omega]

def hd (L : List Int) (e : Int) : Int := L.headD e
def lst (p : Int) : List Int → Int
  | [] => p
  | x :: r => lst x r
def Seg (nx pv : List Int) (p : Int) : List Int → Int → Prop
  | [], _ => True
  | x :: r, e => at_ pv x = p ∧ at_ nx x = hd r e ∧ Seg nx pv x r e
theorem lst_append (p : Int) (A B : List Int) : lst p (A ++ B) = lst (lst p A) B := by
  induction A generalizing p with
  | nil => rfl
  | cons x r ih => exact ih x
theorem hd_append (A B : List Int) (e : Int) : hd (A ++ B) e = hd A (hd B e) := by cases A <;> rfl
theorem Seg_append (nx pv : List Int) (p : Int) (A B : List Int) (e : Int) : Seg nx pv p (A ++ B) e ↔ Seg nx pv p A (hd B e) ∧ Seg nx pv (lst p A) B e := by
  induction A generalizing p with
  | nil => simp [Seg, lst]
  | cons x r ih =>
    show (at_ pv x = p ∧ at_ nx x = hd (r ++ B) e ∧ Seg nx pv x (r ++ B) e) ↔ (_ ∧ _ ∧ Seg nx pv x r (hd B e)) ∧ Seg nx pv (lst x r) B e
    rw [ih, hd_append]
    constructor
    · rintro ⟨h1, h2, h3, h4⟩; exact ⟨⟨h1, h2, h3⟩, h4⟩
    · rintro ⟨⟨h1, h2, h3⟩, h4⟩; exact ⟨h1, h2, h3, h4⟩
theorem Seg_congr {nx pv nx' pv' : List Int} {p : Int} {L : List Int} {e : Int} (h : ∀ x ∈ L, at_ nx' x = at_ nx x ∧ at_ pv' x = at_ pv x) (hs : Seg nx pv p L e) : Seg nx' pv' p L e := by
  induction L generalizing p with
  | nil => trivial
  | cons x r ih =>
    obtain ⟨h1, h2, h3⟩ := hs
    have hx := h x (by simp)
    exact ⟨by rw [hx.2]; exact h1, by rw [hx.1]; exact h2, ih (fun y hy => h y (by simp [hy])) h3⟩
theorem lst_mem (p : Int) (L : List Int) : lst p L = p ∧ L = [] ∨ lst p L ∈ L := by
  induction L generalizing p with
  | nil => left; exact ⟨rfl, rfl⟩
  | cons x r ih =>
    right
    rcases ih x with ⟨h, hr⟩ | h
    · show lst x r ∈ _; rw [h]; simp
    · show lst x r ∈ _; simp [h]
theorem hd_mem (L : List Int) (e : Int) : hd L e = e ∧ L = [] ∨ hd L e ∈ L := by
  cases L with
  | nil => left; exact ⟨rfl, rfl⟩
  | cons x r => right; show x ∈ _; simp
/-- the last one's next turned -/
theorem Seg_last {nx pv : List Int} {p : Int} {L : List Int} {e e' : Int} (hs : Seg nx pv p L e) (hn : L.Nodup) (hr : ∀ x ∈ L, 0 ≤ x ∧ x < nx.length) (hne : L ≠ []) :
    Seg (nx.set (lst p L).toNat e') pv p L e' := by
  induction L generalizing p with
  | nil => exact absurd rfl hne
  | cons x r ih =>
    obtain ⟨h1, h2, h3⟩ := hs
    have hxr := (List.nodup_cons.1 hn).1
    have hx := hr x (by simp)
    by_cases hre : r = []
    · subst hre
      refine ⟨h1, ?_, trivial⟩
      show at_ (nx.set x.toNat e') x = e'
      rw [at_set hx.1 hx.1 hx.2, if_pos rfl]
    · have hl : lst x r ∈ r := by
        rcases lst_mem x r with h | h
        · exact absurd h.2 hre
        · exact h
      refine ⟨h1, ?_, ih h3 (List.nodup_cons.1 hn).2 (fun y hy => hr y (by simp [hy])) hre⟩
      show at_ (nx.set (lst x r).toNat e') x = hd r e'
      have hlr := hr (lst x r) (by simp [hl])
      rw [at_set hlr.1 hx.1 hx.2, if_neg (fun h => hxr (by rw [← h]; exact hl)), h2]
      cases r with
      | nil => exact absurd rfl hre
      | cons y s => rfl
/-- the first one's ahead turned -/
theorem Seg_first {nx pv : List Int} {p p' : Int} {L : List Int} {e : Int} (hs : Seg nx pv p L e) (hn : L.Nodup) (hr : ∀ x ∈ L, 0 ≤ x ∧ x < pv.length) (hne : L ≠ []) :
    Seg nx (pv.set (hd L e).toNat p') p' L e := by
  cases L with
  | nil => exact absurd rfl hne
  | cons x r =>
    obtain ⟨h1, h2, h3⟩ := hs
    have hxr := (List.nodup_cons.1 hn).1
    have hx := hr x (by simp)
    refine ⟨?_, h2, Seg_congr (fun y hy => ⟨rfl, ?_⟩) h3⟩
    · show at_ (pv.set x.toNat p') x = p'
      rw [at_set hx.1 hx.1 hx.2, if_pos rfl]
    · show at_ (pv.set x.toNat p') y = at_ pv y
      have hy' := hr y (by simp [hy])
      rw [at_set hx.1 hy'.1 hy'.2, if_neg (fun h => hxr (by rw [h]; exact hy))]

structure FRep (q : FifoC) (N : Nat) (L : List Int) : Prop where
  lo : 1 ≤ N
  hi : N ≤ 1024
  ln : q.nx.length = N
  lp : q.pv.length = N
  li : q.inn.length = N
  nd : L.Nodup
  rng : ∀ x ∈ L, 0 ≤ x ∧ x < N
  cnt : q.n = L.length
  first : q.first = hd L (-1)
  last : q.last = lst (-1) L
  isin : ∀ x : Int, 0 ≤ x → x < N → bat q.inn x = decide (x ∈ L)
  seg : Seg q.nx q.pv (-1) L (-1)

theorem nodup_len (L : List Int) (N : Nat) (hn : L.Nodup) (hr : ∀ x ∈ L, 0 ≤ x ∧ x < (N : Int)) : L.length ≤ N := by
  induction N generalizing L with
  | zero =>
    cases L with
    | nil => simp
    | cons p r => have := hr p (by simp); omega
  | succ n ih =>
    have h1 := ih (L.erase (n : Int)) (hn.erase _) (fun x hx => by
      have h2 := hr x (List.mem_of_mem_erase hx)
      have h3 : x ≠ (n : Int) := (hn.mem_erase_iff.1 hx).1
      omega)
    have h4 : L.length ≤ (L.erase (n : Int)).length + 1 := by
      rw [List.length_erase]; split <;> omega
    omega
def pushC (q : FifoC) (id : Int) : FifoC :=
  { nx := if q.last = -1 then q.nx.set id.toNat (-1) else (q.nx.set id.toNat (-1)).set q.last.toNat id
    pv := q.pv.set id.toNat q.last, inn := q.inn.set id.toNat true, first := if q.last = -1 then id else q.first, last := id, n := q.n + 1 }
def cutC (q : FifoC) (id : Int) : FifoC :=
  { nx := if at_ q.pv id = -1 then q.nx else q.nx.set (at_ q.pv id).toNat (at_ q.nx id)
    pv := if at_ q.nx id = -1 then q.pv else q.pv.set (at_ q.nx id).toNat (at_ q.pv id)
    inn := q.inn.set id.toNat false
    first := if at_ q.pv id = -1 then at_ q.nx id else q.first
    last := if at_ q.nx id = -1 then at_ q.pv id else q.last
    n := q.n - 1 }
theorem lst_neg {L : List Int} {N : Nat} (hr : ∀ x ∈ L, 0 ≤ x ∧ x < (N : Int)) : (lst (-1) L = -1 ↔ L = []) := by
  rcases lst_mem (-1) L with h | h
  · exact ⟨fun _ => h.2, fun e => by rw [e]; rfl⟩
  · have := hr _ h
    exact ⟨fun e => by omega, fun e => by rw [e] at h; simp at h⟩
theorem hd_neg {L : List Int} {N : Nat} (hr : ∀ x ∈ L, 0 ≤ x ∧ x < (N : Int)) : (hd L (-1) = -1 ↔ L = []) := by
  rcases hd_mem L (-1) with h | h
  · exact ⟨fun _ => h.2, fun e => by rw [e]; rfl⟩
  · have := hr _ h
    exact ⟨fun e => by omega, fun e => by rw [e] at h; simp at h⟩
theorem FRep.push {q : FifoC} {N : Nat} {L : List Int} (h : FRep q N L) {id : Int} (h0 : 0 ≤ id) (h1 : id < N) (hni : id ∉ L) : FRep (pushC q id) N (L ++ [id]) := by
  have hl : ∀ x ∈ L, x ≠ id := fun x hx e => hni (by rw [← e]; exact hx)
  have hrN : ∀ x ∈ L, 0 ≤ x ∧ x < (q.nx.set id.toNat (-1)).length := fun x hx => by rw [List.length_set, h.ln]; exact h.rng x hx
  have hseg1 : Seg (q.nx.set id.toNat (-1)) (q.pv.set id.toNat q.last) (-1) L (-1) := Seg_congr (fun x hx => by
    have hx' := h.rng x hx
    have hne := hl x hx
    rw [at_set h0 hx'.1 (by rw [h.ln]; exact hx'.2), if_neg (fun e => hne e.symm), at_set h0 hx'.1 (by rw [h.lp]; exact hx'.2), if_neg (fun e => hne e.symm)]
    exact ⟨rfl, rfl⟩) h.seg
  refine ⟨h.lo, h.hi, ?_, by simp [pushC, h.lp], by simp [pushC, h.li], ?_, ?_, ?_, ?_, ?_, ?_, ?_⟩
  · unfold pushC; simp only; split <;> simp [h.ln]
  · rw [List.nodup_append]
    exact ⟨h.nd, by simp, fun a ha b hb => by simp at hb; rw [hb]; exact hl a ha⟩
  · intro x hx
    simp at hx
    rcases hx with hx | rfl
    · exact h.rng x hx
    · exact ⟨h0, h1⟩
  · simp [pushC, h.cnt]
  · unfold pushC
    simp only
    rw [h.last]
    by_cases hL : L = []
    · subst hL; rfl
    · rw [if_neg (fun e => hL ((lst_neg h.rng).1 e)), h.first]
      cases L with
      | nil => exact absurd rfl hL
      | cons x r => rfl
  · rw [lst_append]; rfl
  · intro x hx0 hx1
    show bat (q.inn.set id.toNat true) x = _
    rw [bat_set h0 hx0 (by rw [h.li]; exact hx1)]
    by_cases e : id = x
    · rw [if_pos e]; simp [e]
    · rw [if_neg e, h.isin x hx0 hx1]
      simp [show x ≠ id from fun h => e h.symm]
  · rw [Seg_append]
    have e1 : lst (-1) L = q.last := h.last.symm
    by_cases hL : L = []
    · subst hL
      have e2 : q.last = -1 := h.last
      refine ⟨trivial, ?_, ?_, trivial⟩
      · show at_ (q.pv.set id.toNat q.last) id = -1
        rw [at_set h0 h0 (by rw [h.lp]; exact h1), if_pos rfl, e2]
      · show at_ (if q.last = -1 then _ else _) id = -1
        rw [if_pos e2, at_set h0 h0 (by rw [h.ln]; exact h1), if_pos rfl]
    · have e2 : ¬ q.last = -1 := by rw [h.last]; exact fun e => hL ((lst_neg h.rng).1 e)
      have hlm : q.last ∈ L := by
        rcases lst_mem (-1) L with hh | hh
        · exact absurd hh.2 hL
        · rw [h.last]; exact hh
      have hlr := h.rng _ hlm
      have enx : (pushC q id).nx = (q.nx.set id.toNat (-1)).set q.last.toNat id := by unfold pushC; simp only; rw [if_neg e2]
      rw [enx]
      refine ⟨?_, ?_, ?_, trivial⟩
      · have := Seg_last (e' := id) hseg1 h.nd hrN hL
        rw [e1] at this
        exact this
      · show at_ (q.pv.set id.toNat q.last) id = lst (-1) L
        rw [at_set h0 h0 (by rw [h.lp]; exact h1), if_pos rfl, e1]
      · show at_ ((q.nx.set id.toNat (-1)).set q.last.toNat id) id = -1
        rw [at_set hlr.1 h0 (by rw [List.length_set, h.ln]; exact h1), if_neg (hl _ hlm), at_set h0 h0 (by rw [h.ln]; exact h1), if_pos rfl]
theorem FRep.cut_links {q : FifoC} {N : Nat} {A B : List Int} {id : Int} (h : FRep q N (A ++ id :: B)) : at_ q.pv id = lst (-1) A ∧ at_ q.nx id = hd B (-1) := by
  have hs := h.seg
  rw [Seg_append] at hs
  exact ⟨hs.2.1, hs.2.2.1⟩
theorem FRep.cut {q : FifoC} {N : Nat} {A B : List Int} {id : Int} (h : FRep q N (A ++ id :: B)) : FRep (cutC q id) N (A ++ B) := by
  obtain ⟨ha, hb⟩ := h.cut_links
  have hs := h.seg
  rw [Seg_append] at hs
  obtain ⟨hsA, _, _, hsB⟩ := hs
  have hnd := h.nd
  rw [List.nodup_append] at hnd
  obtain ⟨hndA, hndB', hdis⟩ := hnd
  obtain ⟨hidB, hndB⟩ := List.nodup_cons.1 hndB'
  have hidA : id ∉ A := fun hx => hdis id hx id (by simp) rfl
  have hrA : ∀ x ∈ A, 0 ≤ x ∧ x < (N : Int) := fun x hx => h.rng x (by simp [hx])
  have hrB : ∀ x ∈ B, 0 ≤ x ∧ x < (N : Int) := fun x hx => h.rng x (by simp [hx])
  have hrid := h.rng id (by simp)
  have hAB : ∀ x ∈ A, x ∉ B := fun x hx hy => hdis x hx x (by simp [hy]) rfl
  have hA1 : (at_ q.pv id = -1 ↔ A = []) := by rw [ha]; exact lst_neg hrA
  have hB1 : (at_ q.nx id = -1 ↔ B = []) := by rw [hb]; exact hd_neg hrB
  refine ⟨h.lo, h.hi, ?_, ?_, by simp [cutC, h.li], ?_, ?_, ?_, ?_, ?_, ?_, ?_⟩
  · unfold cutC; simp only; split <;> simp [h.ln]
  · unfold cutC; simp only; split <;> simp [h.lp]
  · rw [List.nodup_append]
    exact ⟨hndA, hndB, fun a ha' b hb' e => hAB a ha' (by rw [e]; exact hb')⟩
  · intro x hx
    simp at hx
    rcases hx with hx | hx
    · exact hrA x hx
    · exact hrB x hx
  · show q.n - 1 = _
    rw [h.cnt]; simp; omega
  · show (if at_ q.pv id = -1 then at_ q.nx id else q.first) = _
    by_cases hA : A = []
    · rw [if_pos (hA1.2 hA), hb, hA]; rfl
    · rw [if_neg (fun e => hA (hA1.1 e)), h.first]
      cases A with
      | nil => exact absurd rfl hA
      | cons x r => rfl
  · show (if at_ q.nx id = -1 then at_ q.pv id else q.last) = _
    by_cases hB : B = []
    · rw [if_pos (hB1.2 hB), ha, hB]; simp
    · rw [if_neg (fun e => hB (hB1.1 e)), h.last, lst_append, lst_append]
      cases B with
      | nil => exact absurd rfl hB
      | cons x r => rfl
  · intro x hx0 hx1
    show bat (q.inn.set id.toNat false) x = _
    rw [bat_set hrid.1 hx0 (by rw [h.li]; exact hx1)]
    by_cases e : id = x
    · subst e; rw [if_pos rfl]; simp [hidA, hidB]
    · rw [if_neg e, h.isin x hx0 hx1]
      simp [show x ≠ id from fun h => e h.symm]
  · have k1 : Seg (cutC q id).nx (cutC q id).pv (-1) A (hd B (-1)) := by
      by_cases hA : A = []
      · subst hA; trivial
      · have hlA : lst (-1) A ∈ A := by
          rcases lst_mem (-1) A with hh | hh
          · exact absurd hh.2 hA
          · exact hh
        have e1 : (cutC q id).nx = q.nx.set (lst (-1) A).toNat (hd B (-1)) := by unfold cutC; simp only; rw [if_neg (fun e => hA (hA1.1 e)), ha, hb]
        rw [e1]
        refine Seg_congr (fun x hx => ⟨rfl, ?_⟩) (Seg_last (e' := hd B (-1)) hsA hndA (fun x hx => by rw [h.ln]; exact hrA x hx) hA)
        unfold cutC
        simp only
        by_cases hB : B = []
        · rw [if_pos (hB1.2 hB)]
        · rw [if_neg (fun e => hB (hB1.1 e)), hb]
          have hhB : hd B (-1) ∈ B := by
            rcases hd_mem B (-1) with hh | hh
            · exact absurd hh.2 hB
            · exact hh
          have hx' := hrA x hx
          rw [at_set (hrB _ hhB).1 hx'.1 (by rw [h.lp]; exact hx'.2), if_neg (fun e => hAB x hx (by rw [← e]; exact hhB))]
    have k2 : Seg (cutC q id).nx (cutC q id).pv (lst (-1) A) B (-1) := by
      by_cases hB : B = []
      · subst hB; trivial
      · have hhB : hd B (-1) ∈ B := by
          rcases hd_mem B (-1) with hh | hh
          · exact absurd hh.2 hB
          · exact hh
        have e1 : (cutC q id).pv = q.pv.set (hd B (-1)).toNat (lst (-1) A) := by unfold cutC; simp only; rw [if_neg (fun e => hB (hB1.1 e)), ha, hb]
        rw [e1]
        refine Seg_congr (fun x hx => ⟨?_, rfl⟩) (Seg_first (p' := lst (-1) A) hsB hndB (fun x hx => by rw [h.lp]; exact hrB x hx) hB)
        unfold cutC
        simp only
        by_cases hA : A = []
        · rw [if_pos (hA1.2 hA)]
        · rw [if_neg (fun e => hA (hA1.1 e)), ha]
          have hlA : lst (-1) A ∈ A := by
            rcases lst_mem (-1) A with hh | hh
            · exact absurd hh.2 hA
            · exact hh
          have hx' := hrB x hx
          rw [at_set (hrA _ hlA).1 hx'.1 (by rw [h.ln]; exact hx'.2), if_neg (fun e => hAB _ hlA (by rw [e]; exact hx))]
    exact (Seg_append _ _ _ _ _ _).2 ⟨k1, k2⟩
end Go.Proofs.Ytmkbhejbbhikcaa
