/- Rings as plain lists: what putting, dropping and reading do to them. Conditions: those of each theorem. -/
import Derived.Test.YtmkbhejbbhikcaaStr
namespace Go.Proofs.Ytmkbhejbbhikcaa
open Go.RowKit
set_option linter.unusedVariables false

/-- the place of the i-th byte -/
def plc (N f i : Nat) : Nat := if f + i < N then f + i else f + i - N
theorem plc_mod {N f i : Nat} (hf : f < N) (hi : i ≤ N) : (f + i) % N = plc N f i := by
  unfold plc
  split
  · exact Nat.mod_eq_of_lt (by omega)
  · rw [Nat.mod_eq_sub_mod (by omega)]
    exact Nat.mod_eq_of_lt (by omega)
theorem plc_lt {N f i : Nat} (hf : f < N) (hi : i ≤ N) : plc N f i < N := by unfold plc; split <;> omega
/-- N places X, of which from the f-th on the bytes of S stand -/
structure RRep (N f : Nat) (X : List UInt8) (S : ByteArray) : Prop where
  n1 : 1 ≤ N
  n2 : N ≤ 4096
  len : X.length = N
  flt : f < N
  fit : S.size ≤ N
  at_ : ∀ i, i < S.size → X[plc N f i]? = S.data.toList[i]?
theorem RRep.new {N : Nat} (h1 : 1 ≤ N) (h2 : N ≤ 4096) : RRep N 0 (List.replicate N 0) ⟨#[]⟩ :=
  ⟨h1, h2, by simp, by omega, by simp [ByteArray.size], fun i hi => by simp [ByteArray.size] at hi⟩
section
variable {N f : Nat} {X : List UInt8} {S : ByteArray}
/-- how many of a text go over -/
def rput (N : Nat) (S s : ByteArray) : Nat := min s.size (N - S.size)
def rputS (N : Nat) (S s : ByteArray) : ByteArray := S ++ s.extract 0 (rput N S s)
def rputX (N f : Nat) (X : List UInt8) (S s : ByteArray) : List UInt8 :=
  let n := rput N S s
  let at_ := plc N f S.size
  let k := min n (N - at_)
  splice (splice X at_ (s.data.toList.take k)) 0 ((s.data.toList.drop k).take (n - k))
theorem rput_le (N : Nat) (S s : ByteArray) : rput N S s ≤ s.size := Nat.min_le_left _ _
theorem rputS_size (N : Nat) (S s : ByteArray) : (rputS N S s).size = S.size + rput N S s := by
  have hn := rput_le N S s
  unfold rputS
  rw [← ba_size, ba_app, List.length_append, ba_size, ba_sub, List.length_take, List.length_drop, ba_size]; omega
theorem rputX_eq (N f : Nat) (X : List UInt8) (S s : ByteArray) (n q k : Nat) (hn : n = rput N S s) (hq : q = plc N f S.size) (hk : k = min n (N - q)) :
    rputX N f X S s = splice (splice X q (s.data.toList.take k)) 0 ((s.data.toList.drop k).take (n - k)) := by
  unfold rputX; simp only; rw [← hn, ← hq, ← hk]
theorem RRep.put (h : RRep N f X S) (s : ByteArray) : RRep N f (rputX N f X S s) (rputS N S s) := by
  have hp := plc_lt h.flt h.fit
  have hl := ba_size s
  have hn : rput N S s ≤ s.size := Nat.min_le_left _ _
  have hn2 : rput N S s ≤ N - S.size := Nat.min_le_right _ _
  have hfit := h.fit
  have hflt := h.flt
  have hX := h.len
  obtain ⟨n, hne⟩ : ∃ n, n = rput N S s := ⟨_, rfl⟩
  obtain ⟨p, hpe⟩ : ∃ p, p = plc N f S.size := ⟨_, rfl⟩
  obtain ⟨k, hke⟩ : ∃ k, k = min n (N - p) := ⟨_, rfl⟩
  rw [← hne] at hn hn2
  rw [← hpe] at hp
  have c1 : (s.data.toList.take k).length = k := by rw [List.length_take, hl]; omega
  have c2 : ((s.data.toList.drop k).take (n - k)).length = n - k := by rw [List.length_take, List.length_drop, hl]; omega
  have l1 : (splice X p (s.data.toList.take k)).length = N := by rw [length_splice _ _ _ (by rw [c1]; omega), hX]
  have eX : rputX N f X S s = splice (splice X p (s.data.toList.take k)) 0 ((s.data.toList.drop k).take (n - k)) := by
    unfold rputX; simp only; rw [← hne, ← hpe, ← hke]
  have eS : rputS N S s = S ++ s.extract 0 n := by unfold rputS; rw [← hne]
  have sz : (S ++ s.extract 0 n).size = S.size + n := by
    rw [← ba_size, ba_app, List.length_append, ba_size, ba_sub, List.length_take, List.length_drop, hl]; omega
  have hsp : splice X p (s.data.toList.take k) = splice X p (s.data.toList.take k) := rfl
  rw [eX, eS]
  have hnk : n - k ≤ N := by omega
  refine ⟨h.n1, h.n2, by rw [length_splice _ _ _ (by rw [c2, l1]; omega), l1], h.flt, by rw [sz]; omega, fun i hi => ?_⟩
  rw [sz] at hi
  have hpn : p = if f + S.size < N then f + S.size else f + S.size - N := by rw [hpe]; rfl
  have f1 : p + (s.data.toList.take k).length ≤ X.length := by rw [c1, hX]; omega
  have f2 : 0 + ((s.data.toList.drop k).take (n - k)).length ≤ (splice X p (s.data.toList.take k)).length := by rw [c2, l1]; omega
  rw [splice_get _ _ _ f2, splice_get _ _ _ f1, c1, c2, ba_app, ba_sub]
  have hq : plc N f i = if f + i < N then f + i else f + i - N := rfl
  by_cases hiS : i < S.size
  · have h1 : ¬ (0 ≤ plc N f i ∧ plc N f i < 0 + (n - k)) := by
      rw [hq]; split at hpn <;> split <;> omega
    have h2 : ¬ (p ≤ plc N f i ∧ plc N f i < p + k) := by
      rw [hq]; split at hpn <;> split <;> omega
    rw [if_neg h1, if_neg h2, h.at_ i hiS, List.getElem?_append_left (by rw [ba_size]; exact hiS)]
  · have eR : (List.take (n - 0) (List.drop 0 s.data.toList))[i - S.size]? = s.data.toList[i - S.size]? := by
      rw [List.drop_zero, List.getElem?_take, if_pos (by omega)]
    rw [List.getElem?_append_right (by rw [ba_size]; omega), ba_size, eR]
    by_cases hk : i - S.size < k
    · have h1 : ¬ (0 ≤ plc N f i ∧ plc N f i < 0 + (n - k)) := by
        rw [hq]; split at hpn <;> split <;> omega
      have h2 : p ≤ plc N f i ∧ plc N f i < p + k := by
        rw [hq]; split at hpn <;> split <;> omega
      have h3 : plc N f i - p = i - S.size := by
        rw [hq]; split at hpn <;> split <;> omega
      rw [if_neg h1, if_pos h2, h3, List.getElem?_take, if_pos hk]
    · have h1 : 0 ≤ plc N f i ∧ plc N f i < 0 + (n - k) := by
        rw [hq]; split at hpn <;> split <;> omega
      have h3 : k + (plc N f i - 0) = i - S.size := by
        rw [hq]; split at hpn <;> split <;> omega
      have h4 : plc N f i - 0 < n - k := by omega
      rw [if_pos h1, List.getElem?_take, if_pos h4, List.getElem?_drop, h3]
def rfirst (N f n : Nat) (S : ByteArray) : Nat := if S.size - n = 0 then 0 else plc N f n
theorem RRep.drop (h : RRep N f X S) (n : Nat) (hn : n ≤ S.size) : RRep N (rfirst N f n S) X (S.extract n S.size) := by
  have hfit := h.fit
  have hflt := h.flt
  have sz : (S.extract n S.size).size = S.size - n := ba_sub_size S n S.size hn (Nat.le_refl _)
  refine ⟨h.n1, h.n2, h.len, ?_, by rw [sz]; omega, fun i hi => ?_⟩
  · unfold rfirst
    split
    · omega
    · exact plc_lt hflt (by omega)
  · rw [sz] at hi
    unfold rfirst
    rw [if_neg (by omega), ba_sub, List.getElem?_take, if_pos (by omega), List.getElem?_drop, ← h.at_ (n + i) (by omega)]
    congr 1
    unfold plc
    split <;> split <;> split <;> omega
/-- a part in one piece -/
theorem RRep.one (h : RRep N f X S) (a n : Nat) (ha : a + n ≤ S.size) (hn : plc N f a + n ≤ N) : ∀ j, j < n → X[plc N f a + j]? = (S.extract a (a + n)).data.toList[j]? := by
  intro j hj
  have hfit := h.fit
  have hflt := h.flt
  rw [ba_sub, List.getElem?_take, if_pos (by omega), List.getElem?_drop, ← h.at_ (a + j) (by omega)]
  congr 1
  unfold plc at hn ⊢
  split <;> split <;> split at hn <;> omega
/-- .. and in two -/
theorem RRep.two (h : RRep N f X S) (a n : Nat) (ha : a + n ≤ S.size) (hn : N < plc N f a + n) :
    (∀ j, j < N - plc N f a → X[plc N f a + j]? = (S.extract a (a + (N - plc N f a))).data.toList[j]?) ∧
    (∀ j, j < plc N f a + n - N → X[j]? = (S.extract (a + (N - plc N f a)) (a + n)).data.toList[j]?) ∧
    S.extract a (a + (N - plc N f a)) ++ S.extract (a + (N - plc N f a)) (a + n) = S.extract a (a + n) := by
  have hfit := h.fit
  have hflt := h.flt
  have hp := plc_lt hflt (show a ≤ N by omega)
  refine ⟨fun j hj => ?_, fun j hj => ?_, ?_⟩
  · rw [ba_sub, List.getElem?_take, if_pos (by omega), List.getElem?_drop, ← h.at_ (a + j) (by omega)]
    congr 1
    unfold plc at hn hj ⊢
    split <;> split <;> simp_all <;> omega
  · rw [ba_sub, List.getElem?_take, if_pos (by omega), List.getElem?_drop, ← h.at_ _ (by omega)]
    congr 1
    unfold plc at hn hj ⊢
    split <;> split <;> simp_all <;> omega
  · apply ba_ext
    rw [ba_app, ba_sub, ba_sub, ba_sub]
    have e1 : a + (N - plc N f a) - a = N - plc N f a := by omega
    have e2 : a + n - (a + (N - plc N f a)) = n - (N - plc N f a) := by omega
    have e3 : a + n - a = n := by omega
    have e4 : List.drop (a + (N - plc N f a)) S.data.toList = (S.data.toList.drop a).drop (N - plc N f a) := by rw [List.drop_drop]
    rw [e1, e2, e3, e4]
    have e5 : n = (N - plc N f a) + (n - (N - plc N f a)) := by omega
    conv => rhs; rw [e5]
    rw [List.take_add]
end
end Go.Proofs.Ytmkbhejbbhikcaa
