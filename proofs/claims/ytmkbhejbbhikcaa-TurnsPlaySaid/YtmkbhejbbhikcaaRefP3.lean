/- The reference's Pay. Conditions: those of each theorem. -/
import Derived.Test.YtmkbhejbbhikcaaRefP2
namespace Go.Proofs.Ytmkbhejbbhikcaa
open Go.RowKit
attribute [local go_sem ↓] Go.wp_at_zero Go.wp_at_succ

/-- a P and a bool that are returned -/
def RetPB (M : Nat → Prop) (most q : Int) (l : List (Int × Int)) (ok : Bool) (w : World) (e : Ending) (w' : World) : Prop :=
  ∃ A c, e = .returned (.tuple #[.agg #[.int .i64 most, .int .i64 q, .slice A l.length c], .bool ok]) ∧ Rd w' M A (ones l) ∧ Below w.heap.size w w'

def canL (most : Int) (l : List (Int × Int)) (id price : Int) : Bool := decide (0 ≤ id ∧ id < most ∧ max price 0 ≤ hasL l id)
def payL (most : Int) (l : List (Int × Int)) (id price : Int) : List (Int × Int) := if canL most l id price then setL most l id (hasL l id - max price 0) else l

section
variable (M : Nat → Prop) (most q id price : Int) (A : Option Addr) (c : Nat) (l : List (Int × Int)) (w : World) (hr : Rd w M A (ones l)) (hM : ∀ k, M k → k < w.heap.size) (hl : SmallL l)
include hr hM hl
set_option maxHeartbeats 1600000 in
theorem PPay_no (h : id < 0 ∨ most ≤ id ∨ (0 ≤ id ∧ id < most ∧ hasL l id < max price 0)) :
    Calls Try.prog 29 #[.agg #[.int .i64 most, .int .i64 q, .slice A l.length c], .int .i64 id, .int .i64 price] w (RetPB M most q l false w) := by
  obtain ⟨h1, h2⟩ := hasL_bd l id hl.2
  have hn := hl.1
  obtain ⟨W, HW, hB0, hB1, hwW, hRd, hM2⟩ := boxed M most q A l.length c (ones l) w hr hM
  have Hr := hide hr
  clear hM hr hl hM2
  have H := hide h
  clear h
  by_cases hi : id < 0
  · by_cases hp : price < 0
    all_goals
      go_enter Try.func29, Try.ntmps29
      go_wp2
      refine bodyPost_ret (v := .tuple #[.agg #[.int .i64 most, .int .i64 q, .slice A l.length c], .bool false]) (by simp [results, Try.results29, go_sem]) rfl ?_
      exact ⟨A, c, rfl, Hr.out.below (((Below.refl _ _).alloc (Nat.le_refl _) _).alloc (by simp) _), ((Below.refl _ _).alloc (Nat.le_refl _) _).alloc (by simp) _⟩
  · have hid : decide (id < 0) = false := by simp; omega
    by_cases hm : most ≤ id
    · by_cases hp : price < 0
      all_goals
        go_enter Try.func29, Try.ntmps29
        go_wp2
        refine bodyPost_ret (v := .tuple #[.agg #[.int .i64 most, .int .i64 q, .slice A l.length c], .bool false]) (by simp [results, Try.results29, go_sem]) rfl ?_
        exact ⟨A, c, rfl, Hr.out.below (((Below.refl _ _).alloc (Nat.le_refl _) _).alloc (by simp) _), ((Below.refl _ _).alloc (Nat.le_refl _) _).alloc (by simp) _⟩
    · have hmd : decide (most ≤ id) = false := by simp; omega
      by_cases hp : price < 0
      all_goals
        have hlt : hasL l id < max price 0 := by have := H.out; omega
        try (exfalso; omega)
      have hlt2 : hasL l id < price := by omega
      clear hlt
      go_enter Try.func29, Try.ntmps29
      go_wp2_with (go_at_call 28
                   rw [← HW.out]
                   refine (PHas_c (MM M w.heap.size (w.heap.size + 2)) most q id A c l W hRd hn).mono ?_
                   rintro e w1 ⟨rfl, hb1⟩
                   obtain ⟨⟨hx0, hx1, hx2⟩, _⟩ := (hB0.below hb1).three
                   obtain ⟨⟨hz0, hz1, hz2⟩, hf0, hf1, hf2⟩ := (hB1.below hb1).three)
      refine bodyPost_ret (v := .tuple #[.agg #[.int .i64 most, .int .i64 q, .slice A l.length c], .bool false]) (by simp [results, Try.results29, go_sem, hz0, hz1, hz2]) rfl ?_
      have R := ret_end (hRd.below hb1) (hwW.trans (hb1.mono hwW.size)) (v1 := .int .i64 most) (v2 := .int .i64 q) (v3 := .slice A l.length c)
      exact ⟨A, c, rfl, R.1, R.2⟩

set_option maxHeartbeats 1600000 in
theorem PPay_yes (g0 : 0 ≤ id) (g1 : id < most) (g2 : max price 0 ≤ hasL l id) :
    Calls Try.prog 29 #[.agg #[.int .i64 most, .int .i64 q, .slice A l.length c], .int .i64 id, .int .i64 price] w (RetPB M most q (setL most l id (hasL l id - max price 0)) true w) := by
  obtain ⟨h1, h2⟩ := hasL_bd l id hl.2
  have hn := hl.1
  obtain ⟨W, HW, hB0, hB1, hwW, hRd, hM2⟩ := boxed M most q A l.length c (ones l) w hr hM
  have HM := hide hM2
  clear hM hr hl hM2
  obtain ⟨pr, hpr⟩ : ∃ pr, pr = max price 0 := ⟨_, rfl⟩
  rw [← hpr] at g2 ⊢
  have p0 : 0 ≤ pr := by omega
  have hwr : IntKind.i64.wrap (hasL l id - pr) = hasL l id - pr := IntWalk.i64_in _ (by omega)
  have hidd : decide (id < 0) = false := by simp; omega
  have hmd : decide (most ≤ id) = false := by simp; omega
  have hpd : decide (hasL l id < pr) = false := by simp; omega
  have Hpr := hide hpr
  clear hpr
  by_cases hp : price < 0
  · obtain rfl : pr = 0 := by have := Hpr.out; omega
    rw [Int.sub_zero] at hwr ⊢
    go_enter Try.func29, Try.ntmps29
    go_wp2_with (go_at_call 28
                 rw [← HW.out]
                 refine (PHas_c (MM M w.heap.size (w.heap.size + 2)) most q id A c l W hRd hn).mono ?_
                 rintro e w1 ⟨rfl, hb1⟩
                 obtain ⟨⟨hx0, hx1, hx2⟩, _⟩ := (hB0.below hb1).three)
    go_region_held3 (fun w' => w'.cell? ⟨w.heap.size, 0, none⟩ = some (.int .i64 most) ∧ w'.cell? ⟨w.heap.size, 1, none⟩ = some (.int .i64 q) ∧ w'.cell? ⟨w.heap.size, 2, none⟩ = some (.slice A l.length c))
      (go_keep)
      (first
        | (go_at_call 28
           refine (PHas_c (MM M w.heap.size (w.heap.size + 2)) most q id A c l w1.drew (hRd.below hb1).drew hn).mono ?_
           rintro e w2 ⟨rfl, hb2⟩
           have k0 := bkeep hb2 hx0
           have k1 := bkeep hb2 hx1
           have k2 := bkeep hb2 hx2)
        | (go_at_call 85
           refine (Pset_c (MM M w.heap.size (w.heap.size + 2)) most q id _ A c l _ ((hRd.below hb1).drew.below hb2) (fun k hk => Nat.lt_of_lt_of_le (HM.out k hk) (Nat.le_trans hb1.size hb2.size)) hn).mono ?_
           rintro e w3 ⟨A2, c2, rfl, hR2, hb3⟩
           have j0 := bkeep hb3 (bkeep hb2 hx0)
           have j1 := bkeep hb3 (bkeep hb2 hx1)
           have j2 := bkeep hb3 (bkeep hb2 hx2)
           obtain ⟨⟨hz0, hz1, hz2⟩, hf0, hf1, hf2⟩ := (((hB1.below hb1).drew.below hb2).below hb3).three))
    go_wp2
    refine bodyPost_ret (v := .tuple #[.agg #[.int .i64 most, .int .i64 q, .slice A2 (setL most l id (hasL l id)).length c2], .bool true]) (by simp [results, Try.results29, go_sem, hz0, hz1, hz2]) rfl ?_
    have R := ret_end hR2 (((hwW.trans (hb1.mono hwW.size)).drew.trans (hb2.mono (Nat.le_trans hwW.size hb1.size))).trans (hb3.mono (Nat.le_trans hwW.size (Nat.le_trans hb1.size hb2.size)))) (v1 := .int .i64 most) (v2 := .int .i64 q) (v3 := .slice A2 (setL most l id (hasL l id)).length c2)
    exact ⟨A2, c2, rfl, R.1, R.2⟩
  · obtain rfl : pr = price := by have := Hpr.out; omega
    go_enter Try.func29, Try.ntmps29
    go_wp2_with (go_at_call 28
                 rw [← HW.out]
                 refine (PHas_c (MM M w.heap.size (w.heap.size + 2)) most q id A c l W hRd hn).mono ?_
                 rintro e w1 ⟨rfl, hb1⟩
                 obtain ⟨⟨hx0, hx1, hx2⟩, _⟩ := (hB0.below hb1).three)
    go_region_held3 (fun w' => w'.cell? ⟨w.heap.size, 0, none⟩ = some (.int .i64 most) ∧ w'.cell? ⟨w.heap.size, 1, none⟩ = some (.int .i64 q) ∧ w'.cell? ⟨w.heap.size, 2, none⟩ = some (.slice A l.length c))
      (go_keep)
      (first
        | (go_at_call 28
           refine (PHas_c (MM M w.heap.size (w.heap.size + 2)) most q id A c l w1.drew (hRd.below hb1).drew hn).mono ?_
           rintro e w2 ⟨rfl, hb2⟩
           have k0 := bkeep hb2 hx0
           have k1 := bkeep hb2 hx1
           have k2 := bkeep hb2 hx2)
        | (go_at_call 85
           refine (Pset_c (MM M w.heap.size (w.heap.size + 2)) most q id _ A c l _ ((hRd.below hb1).drew.below hb2) (fun k hk => Nat.lt_of_lt_of_le (HM.out k hk) (Nat.le_trans hb1.size hb2.size)) hn).mono ?_
           rintro e w3 ⟨A2, c2, rfl, hR2, hb3⟩
           have j0 := bkeep hb3 (bkeep hb2 hx0)
           have j1 := bkeep hb3 (bkeep hb2 hx1)
           have j2 := bkeep hb3 (bkeep hb2 hx2)
           obtain ⟨⟨hz0, hz1, hz2⟩, hf0, hf1, hf2⟩ := (((hB1.below hb1).drew.below hb2).below hb3).three))
    go_wp2
    refine bodyPost_ret (v := .tuple #[.agg #[.int .i64 most, .int .i64 q, .slice A2 (setL most l id (hasL l id - pr)).length c2], .bool true]) (by simp [results, Try.results29, go_sem, hz0, hz1, hz2]) rfl ?_
    have R := ret_end hR2 (((hwW.trans (hb1.mono hwW.size)).drew.trans (hb2.mono (Nat.le_trans hwW.size hb1.size))).trans (hb3.mono (Nat.le_trans hwW.size (Nat.le_trans hb1.size hb2.size)))) (v1 := .int .i64 most) (v2 := .int .i64 q) (v3 := .slice A2 (setL most l id (hasL l id - pr)).length c2)
    exact ⟨A2, c2, rfl, R.1, R.2⟩
theorem PPay_c :
    Calls Try.prog 29 #[.agg #[.int .i64 most, .int .i64 q, .slice A l.length c], .int .i64 id, .int .i64 price] w (RetPB M most q (payL most l id price) (canL most l id price) w) := by
  by_cases h : 0 ≤ id ∧ id < most ∧ max price 0 ≤ hasL l id
  · have e : canL most l id price = true := by unfold canL; simpa using h
    unfold payL
    rw [e]
    exact PPay_yes M most q id price A c l w hr hM hl h.1 h.2.1 h.2.2
  · have e : canL most l id price = false := by unfold canL; simpa using h
    unfold payL
    rw [e]
    exact PPay_no M most q id price A c l w hr hM hl (by omega)
end
end Go.Proofs.Ytmkbhejbbhikcaa
