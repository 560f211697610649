/- Purses as a list of numbers, and as a list of pairs, come to the same: plain lists, no program. Conditions: those of each theorem. -/
import Derived.Test.YtmkbhejbbhikcaaRefP3
namespace Go.Proofs.Ytmkbhejbbhikcaa

def sum2 (L : List (Int × Int)) : Int := L.foldr (fun p s => p.2 + s) 0
theorem sum2_append (a b : List (Int × Int)) : sum2 (a ++ b) = sum2 a + sum2 b := by
  induction a with
  | nil => simp [sum2]
  | cons p r ih =>
    have e1 : sum2 (p :: r ++ b) = p.2 + sum2 (r ++ b) := rfl
    have e2 : sum2 (p :: r) = p.2 + sum2 r := rfl
    rw [e1, e2, ih]; omega

/-- no two of one number -/
def Distinct (L : List (Int × Int)) : Prop := L.Pairwise fun a b => a.1 ≠ b.1
theorem hasL_not (L : List (Int × Int)) (id : Int) (h : ∀ p ∈ L, p.1 ≠ id) : hasL L id = 0 := by
  induction L with
  | nil => rfl
  | cons p r ih =>
    unfold hasL
    rw [if_neg (h p (by simp))]
    exact ih fun q hq => h q (by simp [hq])
theorem cutL_mem {L : List (Int × Int)} {id : Int} {p : Int × Int} (h : p ∈ cutL L id) : p ∈ L ∧ p.1 ≠ id := by
  unfold cutL at h
  simpa using h
theorem hasL_cut_add (L : List (Int × Int)) (id x k : Int) : hasL (cutL L id ++ [(id, x)]) k = if k = id then x else hasL L k := by
  induction L with
  | nil =>
    show hasL [(id, x)] k = _
    unfold hasL
    by_cases h : k = id
    · rw [if_pos h.symm, if_pos h]
    · rw [if_neg (fun e => h e.symm), if_neg h]; rfl
  | cons p r ih =>
    by_cases hp : p.1 = id
    · have e : cutL (p :: r) id = cutL r id := by unfold cutL; simp [hp]
      rw [e, ih]
      by_cases h : k = id
      · rw [if_pos h, if_pos h]
      · rw [if_neg h, if_neg h]
        show _ = (if p.1 = k then p.2 else hasL r k)
        rw [if_neg (by omega)]
    · have e : cutL (p :: r) id = p :: cutL r id := by unfold cutL; simp [hp]
      rw [e]
      show (if p.1 = k then p.2 else hasL (cutL r id ++ [(id, x)]) k) = _
      rw [ih]
      by_cases h : k = id
      · rw [if_pos h, if_pos h, if_neg (by omega)]
      · rw [if_neg h, if_neg h]; rfl
theorem hasL_cut (L : List (Int × Int)) (id k : Int) (hk : k ≠ id) : hasL (cutL L id) k = hasL L k := by
  induction L with
  | nil => rfl
  | cons p r ih =>
    by_cases hp : p.1 = id
    · have e : cutL (p :: r) id = cutL r id := by unfold cutL; simp [hp]
      rw [e, ih]
      show _ = (if p.1 = k then p.2 else hasL r k)
      rw [if_neg (by omega)]
    · have e : cutL (p :: r) id = p :: cutL r id := by unfold cutL; simp [hp]
      rw [e]
      show (if p.1 = k then p.2 else hasL (cutL r id) k) = (if p.1 = k then p.2 else hasL r k)
      rw [ih]
theorem sum2_cut (L : List (Int × Int)) (id : Int) (hd : Distinct L) : sum2 (cutL L id) = sum2 L - hasL L id := by
  induction L with
  | nil => rfl
  | cons p r ih =>
    have hd' : Distinct r := (List.pairwise_cons.1 hd).2
    have hnot := (List.pairwise_cons.1 hd).1
    have es : sum2 (p :: r) = p.2 + sum2 r := rfl
    by_cases hp : p.1 = id
    · have e : cutL (p :: r) id = cutL r id := by unfold cutL; simp [hp]
      have h0 : hasL r id = 0 := hasL_not r id fun q hq he => hnot q hq (by omega)
      have e2 : hasL (p :: r) id = p.2 := by show (if p.1 = id then p.2 else hasL r id) = _; rw [if_pos hp]
      rw [e, ih hd', es, e2, h0]; omega
    · have e : cutL (p :: r) id = p :: cutL r id := by unfold cutL; simp [hp]
      have e2 : hasL (p :: r) id = hasL r id := by show (if p.1 = id then p.2 else hasL r id) = _; rw [if_neg hp]
      have e3 : sum2 (p :: cutL r id) = p.2 + sum2 (cutL r id) := rfl
      rw [e, e3, ih hd', es, e2]; omega
theorem Distinct.cut {L : List (Int × Int)} (hd : Distinct L) (id : Int) : Distinct (cutL L id) := by
  unfold Distinct cutL
  exact List.Pairwise.filter _ hd
theorem Distinct.set_ {L : List (Int × Int)} (hd : Distinct L) (most id x : Int) : Distinct (setL most L id x) := by
  unfold setL
  split
  · unfold Distinct
    rw [List.pairwise_append]
    refine ⟨hd.cut id, by simp, fun a ha b hb => ?_⟩
    simp only [List.mem_singleton] at hb
    rw [hb]
    exact (cutL_mem ha).2
  · exact hd.cut id
theorem cutL_id {L : List (Int × Int)} {id : Int} (h : ∀ p ∈ L, p.1 ≠ id) : cutL L id = L := by
  unfold cutL
  rw [List.filter_eq_self]
  intro p hp
  simpa using h p hp

theorem sumInts_eq (l : List Int) : sumInts l = l.foldr (· + ·) 0 := by
  have key : ∀ (l : List Int) (a : Int), l.foldl (· + ·) a = a + l.foldr (· + ·) 0 := by
    intro l
    induction l with
    | nil => intro a; simp
    | cons x r ih => intro a; simp only [List.foldl_cons, List.foldr_cons]; rw [ih]; omega
  unfold sumInts
  rw [key]; omega
theorem sumInts_set (l : List Int) (i : Nat) (v : Int) (h : i < l.length) : sumInts (l.set i v) = sumInts l - nth l i + v := by
  rw [sumInts_eq, sumInts_eq]
  induction l generalizing i with
  | nil => simp at h
  | cons x r ih =>
    cases i with
    | zero => simp only [List.set_cons_zero, List.foldr_cons]; show _ = x + r.foldr (· + ·) 0 - x + v; omega
    | succ i =>
      have := ih i (by simpa using h)
      simp only [List.set_cons_succ, List.foldr_cons]
      rw [this]
      show _ = x + r.foldr (· + ·) 0 - nth r i + v
      omega
theorem sumInts_zeros (n : Nat) : sumInts (zeros n) = 0 := by
  rw [sumInts_eq]
  unfold zeros
  induction n with
  | zero => rfl
  | succ n ih => rw [List.replicate_succ, List.foldr_cons, ih]; rfl

/-- purses here and there tell the same -/
structure PRel (m : PurseM) (most q : Int) (L : List (Int × Int)) : Prop where
  ok : m.Ok
  len : (m.l.length : Int) = most
  q : m.q = q
  has : ∀ id, m.has id = hasL L id
  sum : sumInts m.l = sum2 L
  dist : Distinct L
  mem : ∀ p ∈ L, 0 ≤ p.1 ∧ p.1 < most ∧ 0 ≤ p.2 ∧ p.2 ≤ 2000000000
  few : L.length ≤ 1024
theorem within_clip (n a b : Int) (h : a ≤ b) : within n a b = clip n a b := by
  unfold within clip; split <;> (try split) <;> omega
theorem few_of (L : List (Int × Int)) (most : Nat) (hd : Distinct L) (hm : ∀ p ∈ L, 0 ≤ p.1 ∧ p.1 < (most : Int)) : L.length ≤ most := by
  induction most generalizing L with
  | zero =>
    cases L with
    | nil => simp
    | cons p r => have := hm p (by simp); omega
  | succ n ih =>
    have h1 := ih (cutL L (n : Int)) (hd.cut _) (fun p hp => by
      have h2 := cutL_mem hp
      have h3 := hm p h2.1
      have h4 := h2.2
      omega)
    have h5 : L.length ≤ (cutL L (n : Int)).length + 1 := by
      clear ih h1 hm
      induction L with
      | nil => simp
      | cons p r ihr =>
        have hd' : Distinct r := (List.pairwise_cons.1 hd).2
        have hnot := (List.pairwise_cons.1 hd).1
        by_cases hp : p.1 = (n : Int)
        · have e : cutL (p :: r) (n : Int) = cutL r n := by unfold cutL; simp [hp]
          have e2 : cutL r (n : Int) = r := cutL_id fun q hq he => hnot q hq (by omega)
          rw [e, e2]; simp
        · have e : cutL (p :: r) (n : Int) = p :: cutL r n := by unfold cutL; simp [hp]
          have := ihr hd'
          rw [e]; simp only [List.length_cons]; omega
    omega

theorem PRel.new (most q : Int) : PRel (newPurse most q) (within most 1 1024) (within q 1 1000000) [] := by
  refine ⟨newPurse_ok most q, ?_, ?_, ?_, ?_, List.Pairwise.nil, by simp, by simp⟩
  · show ((zeros _).length : Int) = _
    rw [zeros_len, within_clip _ _ _ (by omega)]; unfold clip; omega
  · show clip _ _ _ = _
    rw [within_clip _ _ _ (by omega)]
  · intro id
    unfold PurseM.has
    show (if _ then nth (zeros _) _ else 0) = 0
    unfold zeros
    rw [nth_rep]
    split <;> rfl
  · exact sumInts_zeros _
theorem PRel.put {m : PurseM} {most q : Int} {L : List (Int × Int)} (h : PRel m most q L) (id : Int) {v x : Int} (v0 : 0 ≤ v) (v1 : v ≤ 2000000000) (hv : v = within x 0 2000000000) : PRel (m.put id v) most q (setL most L id x) := by
  have hd := h.dist.set_ most id x
  have hm : ∀ p ∈ setL most L id x, 0 ≤ p.1 ∧ p.1 < most ∧ 0 ≤ p.2 ∧ p.2 ≤ 2000000000 := by
    intro p hp
    unfold setL at hp
    split at hp
    · rename_i hr
      simp only [List.mem_append, List.mem_singleton] at hp
      rcases hp with hp | rfl
      · exact h.mem p (cutL_mem hp).1
      · simp only; rw [← hv]; exact ⟨hr.1, hr.2, v0, v1⟩
    · exact h.mem p (cutL_mem hp).1
  have hlen : (m.put id v).l.length = m.l.length := PurseM.put_len m id v
  refine ⟨h.ok.put id v0 v1, by rw [hlen]; exact h.len, by rw [PurseM.put_q]; exact h.q, fun k => ?_, ?_, hd, hm, ?_⟩
  · by_cases hr : 0 ≤ id ∧ id < most
    · unfold setL
      rw [if_pos hr, ← hv, hasL_cut_add]
      by_cases hk : k = id
      · rw [if_pos hk, hk, PurseM.put_has hr.1 (by rw [h.len]; exact hr.2)]
      · rw [if_neg hk, PurseM.put_far hk]; exact h.has k
    · rw [PurseM.put_out (by rw [h.len]; exact hr)]
      unfold setL
      rw [if_neg hr, cutL_id (fun p hp he => hr (by have := h.mem p hp; omega))]
      exact h.has k
  · by_cases hr : 0 ≤ id ∧ id < most
    · have hr' : 0 ≤ id ∧ id < m.l.length := by rw [h.len]; exact hr
      have e1 : (m.put id v).l = m.l.set id.toNat v := by unfold PurseM.put; rw [if_pos hr']
      rw [e1, sumInts_set _ _ _ (by omega), h.sum]
      unfold setL
      rw [if_pos hr, ← hv, sum2_append, sum2_cut _ _ h.dist, ← h.has id, PurseM.has_eq hr'.1 hr'.2]
      show _ = _ + (v + 0)
      omega
    · rw [PurseM.put_out (by rw [h.len]; exact hr)]
      unfold setL
      rw [if_neg hr, cutL_id (fun p hp he => hr (by have := h.mem p hp; omega))]
      exact h.sum
  · have h1 := few_of (setL most L id x) most.toNat hd (fun p hp => by have := hm p hp; omega)
    have h2 := h.len
    have h3 := h.ok.hi
    omega
theorem PRel.give {m : PurseM} {most q : Int} {L : List (Int × Int)} (h : PRel m most q L) (id : Int) : PRel (m.give id) most q (setL most L id (hasL L id + q)) := by
  have h1 := h.ok.has id
  have h2 := h.ok.qlo
  have hq := h.q
  subst hq
  rw [← h.has id]
  exact h.put (v := min (m.has id + m.q) 2000000000) id (by omega) (by omega) (by unfold within; split <;> (try split) <;> omega)
theorem PRel.clear {m : PurseM} {most q : Int} {L : List (Int × Int)} (h : PRel m most q L) (id : Int) : PRel (m.clear id) most q (setL most L id 0) :=
  h.put (v := 0) id (by omega) (by omega) (by unfold within; split <;> (try split) <;> omega)
theorem PRel.can {m : PurseM} {most q : Int} {L : List (Int × Int)} (h : PRel m most q L) (id p : Int) : m.can id p = canL most L id p := by
  unfold PurseM.can canL
  rw [h.len, h.has]
theorem PRel.pay {m : PurseM} {most q : Int} {L : List (Int × Int)} (h : PRel m most q L) (id p : Int) : PRel (m.pay id p) most q (payL most L id p) := by
  unfold PurseM.pay payL
  rw [← h.can id p]
  have h1 := h.ok.has id
  split
  · rename_i hc
    have := PurseM.can_le hc
    rw [← h.has id]
    exact h.put (v := m.has id - max p 0) id (by omega) (by omega) (by unfold within; split <;> (try split) <;> omega)
  · exact h
theorem PRel.small {m : PurseM} {most q : Int} {L : List (Int × Int)} (h : PRel m most q L) : SmallL L ∧ SmallQ q := by
  refine ⟨⟨by have := h.few; omega, fun p hp => ⟨(h.mem p hp).2.2.1, (h.mem p hp).2.2.2⟩⟩, ?_⟩
  rw [← h.q]; exact ⟨h.ok.qlo, h.ok.qhi⟩
end Go.Proofs.Ytmkbhejbbhikcaa
