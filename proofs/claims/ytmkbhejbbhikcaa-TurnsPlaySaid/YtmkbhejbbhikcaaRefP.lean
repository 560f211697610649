/- What the reference's purses do: walks over a list of pairs. Conditions: those of each theorem. -/
import Derived.Test.YtmkbhejbbhikcaaPurse2
import Derived.Deep.RegionHeld3
import Derived.Deep.DrawnRows
namespace Go.Proofs.Ytmkbhejbbhikcaa
open Go.RowKit
attribute [local go_sem ↓] Go.wp_at_zero Go.wp_at_succ

theorem Try.infoOne : (Try.prog.info? 44).map (fun i => (i.zero, i.size, i.bytes)) = some (some (.agg #[.int .i64 0, .int .i64 0]), 2, 16) := by kernel_rfl

def within (n a b : Int) : Int := if n < a then a else if b < n then b else n
theorem within_c (n a b : Int) (w : World) :
    Calls Try.prog 19 #[.int .i64 n, .int .i64 a, .int .i64 b] w fun e w' => e = .returned (.int .i64 (within n a b)) ∧ w = w' := by
  unfold within
  by_cases h1 : n < a
  · rw [if_pos h1]
    go_enter Try.func19, Try.ntmps19
    go_wp2
    go_ret
    exact ⟨rfl, rfl⟩
  · rw [if_neg h1]
    by_cases h2 : b < n
    · rw [if_pos h2]
      go_enter Try.func19, Try.ntmps19
      go_wp2
      go_ret
      exact ⟨rfl, rfl⟩
    · rw [if_neg h2]
      go_enter Try.func19, Try.ntmps19
      go_wp2
      go_ret
      exact ⟨rfl, rfl⟩

/-- pairs as cells -/
def ones : List (Int × Int) → List Value
  | [] => []
  | p :: r => .int .i64 p.1 :: .int .i64 p.2 :: ones r
def oneId (l : List (Int × Int)) (k : Nat) : Int := (l.getD k (0, 0)).1
def oneN (l : List (Int × Int)) (k : Nat) : Int := (l.getD k (0, 0)).2
theorem ones_len (l : List (Int × Int)) : (ones l).length = l.length * 2 := by
  induction l with
  | nil => rfl
  | cons p r ih => simp [ones, ih]; omega
theorem ones_append (a b : List (Int × Int)) : ones (a ++ b) = ones a ++ ones b := by
  induction a with
  | nil => rfl
  | cons p r ih => simp [ones, ih]
theorem ones_at (l : List (Int × Int)) : ∀ k, k < l.length → (ones l)[k * 2]? = some (.int .i64 (oneId l k)) ∧ (ones l)[k * 2 + 1]? = some (.int .i64 (oneN l k)) := by
  induction l with
  | nil => intro k hk; simp at hk
  | cons p r ih =>
    intro k hk
    cases k with
    | zero => exact ⟨rfl, rfl⟩
    | succ k =>
      have := ih k (by simpa using hk)
      have e1 : (k + 1) * 2 = k * 2 + 1 + 1 := by omega
      rw [e1]
      simpa [ones, oneId, oneN] using this
theorem ones_one (l : List (Int × Int)) : ∀ u ∈ ones l, u.oneCell' = true := by
  induction l with
  | nil => intro u hu; simp [ones] at hu
  | cons p r ih =>
    intro u hu
    simp only [ones, List.mem_cons] at hu
    rcases hu with rfl | rfl | hu
    · rfl
    · rfl
    · exact ih u hu

def hasL : List (Int × Int) → Int → Int
  | [], _ => 0
  | p :: r, id => if p.1 = id then p.2 else hasL r id
theorem hasL_drop (l : List (Int × Int)) (id : Int) (k : Nat) (h : k < l.length) : hasL (l.drop k) id = if oneId l k = id then oneN l k else hasL (l.drop (k + 1)) id := by
  rw [List.drop_eq_getElem_cons h]
  simp [hasL, oneId, oneN, List.getD, h]

/-- P's Has: reads alone -/
theorem PHas_c (M : Nat → Prop) (most q id : Int) (A : Option Addr) (c : Nat) (l : List (Int × Int)) (w : World) (hr : Rd w M A (ones l)) (hn : l.length ≤ 100000) :
    Calls Try.prog 28 #[.agg #[.int .i64 most, .int .i64 q, .slice A l.length c], .int .i64 id] w fun e w' => e = .returned (.int .i64 (hasL l id)) ∧ Below w.heap.size w w' := by
  have hcell : ∀ k, k < l.length → ∃ b o, A = some ⟨b, o, none⟩ ∧ b < w.heap.size ∧ w.cell? ⟨b, o + k * 2, none⟩ = some (.int .i64 (oneId l k)) ∧ w.cell? ⟨b, o + k * 2 + 1, none⟩ = some (.int .i64 (oneN l k)) := by
    intro k hk
    obtain ⟨b, o, hA, _, hb, hc⟩ := hr.at_ (j := k * 2) (by rw [ones_len]; omega)
    have h1 := ones_at l k hk
    exact ⟨b, o, hA, hb, by rw [hc _ (by rw [ones_len]; omega)]; exact h1.1, by rw [Nat.add_assoc, hc _ (by rw [ones_len]; omega)]; exact h1.2⟩
  obtain ⟨n, hnl⟩ : ∃ n, n = l.length := ⟨_, rfl⟩
  rw [← hnl] at hcell hn ⊢
  have Hn := hide hnl
  have Hc := hide hcell
  clear hnl hcell hr
  go_enter Try.func28, Try.ntmps28
  go_wp2
  go_loop [5] (fun i => ∃ k : Nat, k ≤ n ∧ i = .int .i64 k ∧ hasL (l.drop k) id = hasL l id) (fun i => n - (intOf i).toNat)
  case atStart => exact ⟨0, Nat.zero_le _, rfl, rfl⟩
  case round =>
    obtain ⟨k, hk, rfl, hh⟩ := hrel
    have HH := hide hh
    clear hh
    by_cases hlt : k < n
    · obtain ⟨b, o, rfl, hb, h1, h2⟩ := Hc.out k hlt
      have HS := hide (hasL_drop l id k (by rw [← Hn.out]; exact hlt))
      by_cases he : oneId l k = id
      · have HE := hide he
        have hb2 : (oneId l k == id) = true := by simp [he]
        clear he
        go_wp2
        go_ret
        refine ⟨ret_int ?_, (Below.refl _ _).alloc (Nat.le_refl _) _⟩
        rw [← HH.out, HS.out, if_pos HE.out]
      · have HE := hide he
        have hb2 : (oneId l k == id) = false := by simp [he]
        clear he
        go_wp2
        go_round
        case rel => exact ⟨k + 1, by omega, by go_num, by rw [← HH.out, HS.out, if_neg HE.out]⟩
        case measure => simp [intOf]; omega
    · have hd : decide ((k : Int) < n) = false := by simp; omega
      go_wp2
      go_ret
      refine ⟨ret_int ?_, (Below.refl _ _).alloc (Nat.le_refl _) _⟩
      rw [← HH.out, List.drop_of_length_le (by rw [← Hn.out]; omega)]
      rfl

def cutL (l : List (Int × Int)) (id : Int) : List (Int × Int) := l.filter fun p => decide (p.1 ≠ id)
theorem cutL_yes (l : List (Int × Int)) (id : Int) (k : Nat) (h : k < l.length) (he : oneId l k ≠ id) : cutL (l.take (k + 1)) id = cutL (l.take k) id ++ [(oneId l k, oneN l k)] := by
  unfold cutL
  rw [List.take_succ_eq_append_getElem h, List.filter_append]
  have : l[k].1 ≠ id := by simpa [oneId, List.getD, h] using he
  simp [this, oneId, oneN, List.getD, h]
theorem cutL_no (l : List (Int × Int)) (id : Int) (k : Nat) (h : k < l.length) (he : oneId l k = id) : cutL (l.take (k + 1)) id = cutL (l.take k) id := by
  unfold cutL
  rw [List.take_succ_eq_append_getElem h, List.filter_append]
  have : l[k].1 = id := by simpa [oneId, List.getD, h] using he
  simp [this]
theorem cutL_le (l : List (Int × Int)) (id : Int) (k : Nat) : (cutL (l.take k) id).length ≤ k := by
  have h1 := List.length_filter_le (fun p : Int × Int => decide (p.1 ≠ id)) (l.take k)
  have h2 := List.length_take_le k l
  unfold cutL
  omega
def setL (most : Int) (l : List (Int × Int)) (id n : Int) : List (Int × Int) :=
  if 0 ≤ id ∧ id < most then cutL l id ++ [(id, within n 0 2000000000)] else cutL l id

/-- a P that is returned -/
def RetP (M : Nat → Prop) (most q : Int) (l : List (Int × Int)) (w : World) (e : Ending) (w' : World) : Prop :=
  ∃ A c, e = .returned (.agg #[.int .i64 most, .int .i64 q, .slice A l.length c]) ∧ Rd w' M A (ones l) ∧ Below w.heap.size w w'

theorem set_end {M : Nat → Prop} {L : List (Int × Int)} {w w1 : World} {A : Option Addr} {c : Nat} {n : Nat} {v0 v1 v2 v3 : Value} {xs : List Value} (hM : ∀ k, M k → k < w.heap.size)
    (hown : w1.ownsRow (w.heap.size + 2) 44 2 (.slice A n c) n xs) (hxs : xs = ones L) (hbel : Below w.heap.size w w1) :
    Rd ((((w1.setCell ⟨w.heap.size, 2, none⟩ v0).setCell ⟨w.heap.size + 1, 0, none⟩ v1).setCell ⟨w.heap.size + 1, 1, none⟩ v2).setCell ⟨w.heap.size + 1, 2, none⟩ v3) M A (ones L) ∧
    Below w.heap.size w ((((w1.setCell ⟨w.heap.size, 2, none⟩ v0).setCell ⟨w.heap.size + 1, 0, none⟩ v1).setCell ⟨w.heap.size + 1, 1, none⟩ v2).setCell ⟨w.heap.size + 1, 2, none⟩ v3) := by
  subst hxs
  have h1 : Rd w1 (fun k => M k ∨ k = w.heap.size ∨ k = w.heap.size + 1) A (ones L) := Rd.of_own hown (fun k hk => by
    rcases hk with hk | hk | hk
    · have := hM k hk; omega
    · omega
    · omega)
  refine ⟨(h1.only (S := fun k => k = w.heap.size ∨ k = w.heap.size + 1) ?_ (fun b hb => Or.inr hb)).mono (fun b hb => Or.inl hb), ?_⟩
  · exact ((((Only.refl _ w1).setCell (Or.inl (Or.inl rfl)) _).setCell (Or.inl (Or.inr rfl)) _).setCell (Or.inl (Or.inr rfl)) _).setCell (Or.inl (Or.inr rfl)) _
  · exact (((hbel.setCell (by simp) _).setCell (by simp) _).setCell (by simp) _).setCell (by simp) _

set_option maxHeartbeats 800000 in
theorem Pset_c (M : Nat → Prop) (most q id x : Int) (A : Option Addr) (c : Nat) (l : List (Int × Int)) (w : World) (hr : Rd w M A (ones l)) (hM : ∀ k, M k → k < w.heap.size) (hn : l.length ≤ 100000) :
    Calls Try.prog 85 #[.agg #[.int .i64 most, .int .i64 q, .slice A l.length c], .int .i64 id, .int .i64 x] w (RetP M most q (setL most l id x) w) := by
  have hcell : ∀ k, k < l.length → ∃ b o, A = some ⟨b, o, none⟩ ∧ b < w.heap.size ∧ w.cell? ⟨b, o + k * 2, none⟩ = some (.int .i64 (oneId l k)) ∧ w.cell? ⟨b, o + k * 2 + 1, none⟩ = some (.int .i64 (oneN l k)) := by
    intro k hk
    obtain ⟨b, o, hA, _, hb, hc⟩ := hr.at_ (j := k * 2) (by rw [ones_len]; omega)
    have h1 := ones_at l k hk
    exact ⟨b, o, hA, hb, by rw [hc _ (by rw [ones_len]; omega)]; exact h1.1, by rw [Nat.add_assoc, hc _ (by rw [ones_len]; omega)]; exact h1.2⟩
  obtain ⟨n, hnl⟩ : ∃ n, n = l.length := ⟨_, rfl⟩
  rw [← hnl] at hcell hn ⊢
  have Hn := hide hnl
  have Hc := hide hcell
  obtain ⟨i0, hi, hz0, hz1, hz2⟩ := info_parts Try.infoOne
  clear hnl hcell hr
  go_enter Try.func85, Try.ntmps85
  go_wp2
  go_loopw [7, 8] (fun v i wr => ∃ k : Nat, k ≤ n ∧ i = .int .i64 k ∧ wr.ownsRow (w.heap.size + 2) 44 2 v (cutL (l.take k) id).length (ones (cutL (l.take k) id)) ∧
      Blk wr w.heap.size 37 #[.int .i64 most, .int .i64 q, .slice A n c] ∧ Blk wr (w.heap.size + 1) 37 #[.int .i64 0, .int .i64 0, .slice none 0 0] ∧ Below w.heap.size w wr)
    (fun _ i _ => n - (intOf i).toNat)
  case atStart =>
    refine ⟨0, Nat.zero_le _, rfl, ?_, ?_, ?_, ?_⟩
    · refine ⟨rfl, Or.inr ⟨w.heap.size + 1 + 1, 0, #[], rfl, by omega, ?_, Nat.le_refl _, by unfold maxLen; omega, rfl, rfl⟩⟩
      exact heap_alloc_new' (by simp)
    · exact ((Blk.new w _ _).alloc _).alloc _
    · exact (Blk.new' (w := w.alloc _) (by simp)).alloc _
    · exact (((Below.refl _ _).alloc (Nat.le_refl _) _).alloc (by simp) _).alloc (by simp; omega) _
  case round =>
    obtain ⟨k, hk, rfl, hown, hb0, hb1, hbel⟩ := hrel
    have c0 := hb0.cell 0
    have c1 := hb0.cell 1
    have c2 := hb0.cell 2
    have f0 := hb0.frozen 2
    simp at c0 c1 c2
    have hle := cutL_le l id k
    have hsz := hb1.lt
    by_cases hlt : k < n
    · obtain ⟨b, o, rfl, hb, h1, h2⟩ := Hc.out k hlt
      replace h1 := (hbel.cell (p := ⟨b, o + k * 2, none⟩) hb).trans h1
      replace h2 := (hbel.cell (p := ⟨b, o + k * 2 + 1, none⟩) hb).trans h2
      by_cases he : oneId l k = id
      · have HE := hide he
        have hb2 : (oneId l k != id) = false := by simp [he]
        have HC := hide (cutL_no l id k (by rw [← Hn.out]; exact hlt) he)
        clear he
        go_wp2
        go_roundw
        case rel => exact ⟨k + 1, by omega, by go_num, by rw [HC.out]; exact hown, hb0, hb1, hbel⟩
        case measure => simp [intOf]; omega
      · have HE := hide he
        have hb2 : (oneId l k != id) = true := by simp [he]
        have HC := hide (cutL_yes l id k (by rw [← Hn.out]; exact hlt) he)
        clear he
        go_wp2_with (at_builtin; refine wpList_append_own _ rfl _ _ 35 rfl (w.heap.size + 2) 44 i0 (.agg #[.int .i64 0, .int .i64 0]) 2 16 Try.underlying35 hi hz0 hz1 hz2 rfl (by decide) _ _ _ rfl (hown.alloc _) ⟨wr.heap.size, 0, none⟩ 1 1 [.int .i64 (oneId l k), .int .i64 (oneN l k)] rfl rfl ?c1 ?c2 ?c3 ?c4 ?c5 ?_)
        case c1 =>
          intro j u hj
          match j, hj with
          | 0, hj => simp at hj; subst hj; simp [Addr.add]
          | 1, hj => simp at hj; subst hj; simp [Addr.add]
        case c2 => intro u hu; simp at hu; rcases hu with rfl | rfl <;> rfl
        case c3 => unfold maxLen; omega
        case c4 => omega
        case c5 => have := hbel.size; simp; omega
        intro v' w1 hown' hgrow _
        go_wp2
        go_roundw
        case rel => exact ⟨k + 1, by omega, by go_num, by rw [HC.out, ones_append, List.length_append]; exact hown', hb0.append hown (by omega) hgrow, hb1.append hown (by omega) hgrow, below_append hbel hown hbel.size (by omega) hgrow⟩
        case measure => simp [intOf]; omega
    · have hd : decide ((k : Int) < n) = false := by simp; omega
      have hkn : k = n := by omega
      subst hkn
      have d0 := hb1.cell 0
      have d1 := hb1.cell 1
      have d2 := hb1.cell 2
      have g0 := hb1.frozen 0
      have g1 := hb1.frozen 1
      have g2 := hb1.frozen 2
      simp at d0 d1 d2
      obtain ⟨A1, cc1, rfl⟩ := own_form hown
      by_cases hz : 0 ≤ id
      · by_cases hm : id < most
        · go_wp2_with (first
            | (go_at_call 19; refine (within_c _ _ _ _).mono ?_; rintro e w' ⟨rfl, rfl⟩)
            | (at_builtin; refine wpList_append_own _ rfl _ _ 35 rfl (w.heap.size + 2) 44 i0 (.agg #[.int .i64 0, .int .i64 0]) 2 16 Try.underlying35 hi hz0 hz1 hz2 rfl (by decide) _ _ _ rfl (hown.alloc _) ⟨wr.heap.size, 0, none⟩ 1 1 [.int .i64 id, .int .i64 (within x 0 2000000000)] rfl rfl ?d1 ?d2 ?d3 ?d4 ?d5 ?_))
          case d1 =>
            intro j u hj
            match j, hj with
            | 0, hj => simp at hj; subst hj; simp [Addr.add]
            | 1, hj => simp at hj; subst hj; simp [Addr.add]
          case d2 => intro u hu; simp at hu; rcases hu with rfl | rfl <;> rfl
          case d3 => unfold maxLen; omega
          case d4 => omega
          case d5 => have := hbel.size; simp; omega
          intro v' w1 hown' hgrow _
          obtain ⟨A2, cc2, rfl⟩ := own_form hown'
          have hb0' := hb0.append hown (by omega) hgrow
          have hb1' := hb1.append hown (by omega) hgrow
          have hbel' := below_append hbel hown hbel.size (by omega) hgrow
          clear c0 c1 c2 d0 d1 d2 f0 g0 g1 g2 hgrow hb0 hb1
          have c0 := hb0'.cell 0
          have c1 := hb0'.cell 1
          have c2 := hb0'.cell 2
          have f0 := hb0'.frozen 2
          simp at c0 c1 c2
          have d0 := hb1'.cell 0
          have d1 := hb1'.cell 1
          have d2 := hb1'.cell 2
          have g0 := hb1'.frozen 0
          have g1 := hb1'.frozen 1
          have g2 := hb1'.frozen 2
          simp at d0 d1 d2
          go_wp2
          refine bodyPost_ret (v := .agg #[.int .i64 most, .int .i64 q, .slice A2 ((cutL (l.take k) id).length + 1) cc2]) (by simp [results, Try.results85, go_sem, d0, d1, d2]) rfl ?_
          have e : setL most l id x = cutL (l.take k) id ++ [(id, within x 0 2000000000)] := by
            unfold setL
            rw [if_pos ⟨hz, hm⟩, List.take_of_length_le (by rw [← Hn.out]; exact Nat.le_refl _)]
          rw [e]
          have R := set_end (L := cutL (l.take k) id ++ [(id, within x 0 2000000000)]) hM hown' (by rw [ones_append]; rfl) hbel' (v0 := .slice A2 ((cutL (l.take k) id).length + 1) cc2) (v1 := .int .i64 most) (v2 := .int .i64 q) (v3 := .slice A2 ((cutL (l.take k) id).length + 1) cc2)
          exact ⟨A2, cc2, by simp, R.1, R.2⟩
        · have hmd : decide (id < most) = false := by simp; omega
          go_wp2
          refine bodyPost_ret (v := .agg #[.int .i64 most, .int .i64 q, .slice A1 (cutL (l.take k) id).length cc1]) (by simp [results, Try.results85, go_sem, d0, d1, d2]) rfl ?_
          have e : setL most l id x = cutL (l.take k) id := by
            unfold setL
            rw [if_neg (by omega), List.take_of_length_le (by rw [← Hn.out]; exact Nat.le_refl _)]
          rw [e]
          have R := set_end (L := cutL (l.take k) id) hM hown rfl hbel (v0 := .slice A1 (cutL (l.take k) id).length cc1) (v1 := .int .i64 most) (v2 := .int .i64 q) (v3 := .slice A1 (cutL (l.take k) id).length cc1)
          exact ⟨A1, cc1, rfl, R.1, R.2⟩
      · have hzd : decide (0 ≤ id) = false := by simp; omega
        go_wp2
        refine bodyPost_ret (v := .agg #[.int .i64 most, .int .i64 q, .slice A1 (cutL (l.take k) id).length cc1]) (by simp [results, Try.results85, go_sem, d0, d1, d2]) rfl ?_
        have e : setL most l id x = cutL (l.take k) id := by
          unfold setL
          rw [if_neg (by omega), List.take_of_length_le (by rw [← Hn.out]; exact Nat.le_refl _)]
        rw [e]
        have R := set_end (L := cutL (l.take k) id) hM hown rfl hbel (v0 := .slice A1 (cutL (l.take k) id).length cc1) (v1 := .int .i64 most) (v2 := .int .i64 q) (v3 := .slice A1 (cutL (l.take k) id).length cc1)
        exact ⟨A1, cc1, rfl, R.1, R.2⟩
end Go.Proofs.Ytmkbhejbbhikcaa
