/- The walk of PurseEnough. Conditions: those of the theorem. -/
import Derived.Test.YtmkbhejbbhikcaaPurse3
import Derived.Test.YtmkbhejbbhikcaaRefP
namespace Go.Proofs.Ytmkbhejbbhikcaa
open Go.RowKit

theorem PurseM.put_put (m : PurseM) (i v x : Int) : (m.put i v).put i x = m.put i x := by
  unfold PurseM.put
  by_cases h : 0 ≤ i ∧ i < m.l.length
  · rw [if_pos h]
    simp only [List.length_set]
    rw [if_pos h, if_pos h]
    simp
  · rw [if_neg h, if_neg h]
theorem newPurse_has (most quantum i : Int) : (newPurse most quantum).has i = 0 := by
  unfold PurseM.has newPurse
  simp only
  split
  · unfold zeros; rw [nth_rep]
  · rfl
theorem PurseM.put_self (m : PurseM) (i : Int) : m.put i (m.has i) = m := by
  unfold PurseM.put PurseM.has
  by_cases h : 0 ≤ i ∧ i < m.l.length
  · rw [if_pos h, if_pos h]
    have e : m.l.set i.toNat (nth m.l i.toNat) = m.l := by
      rw [nth_of_lt (by omega)]
      exact List.set_getElem_self _
    rw [e]
  · rw [if_neg h]

theorem enough_give (m : PurseM) (i q : Int) (k : Nat) (hq : m.q = q) (h0 : 0 ≤ i) (h1 : i < m.l.length) (hb : ((k : Int) + 1) * q ≤ 2000000000) :
    (m.put i ((k : Int) * q)).give i = m.put i (((k : Int) + 1) * q) := by
  have e : ((k : Int) + 1) * q = (k : Int) * q + q := by rw [Int.add_mul, Int.one_mul]
  unfold PurseM.give
  rw [PurseM.put_has h0 h1, PurseM.put_q, hq, PurseM.put_put, e]
  rw [e] at hb
  rw [show min ((k : Int) * q + q) 2000000000 = (k : Int) * q + q by omega]
theorem enough_can (m : PurseM) (i x price : Int) (h0 : 0 ≤ i) (h1 : i < m.l.length) (hp : 0 ≤ price) : (m.put i x).can i price = decide (price ≤ x) := by
  unfold PurseM.can
  rw [PurseM.put_has h0 h1, PurseM.put_len, show max price 0 = price by omega]
  by_cases h : price ≤ x
  · simp [h0, h1, h]
  · simp [h]
theorem mul_bd (k : Nat) (q : Int) (n : Nat) (hk : k ≤ n) (h0 : 0 ≤ q) (h1 : q ≤ 1000000) : 0 ≤ (k : Int) * q ∧ (k : Int) * q ≤ (n : Int) * 1000000 := by
  refine ⟨Int.mul_nonneg (by omega) h0, ?_⟩
  exact Int.mul_le_mul (by omega) h1 h0 (by omega)

set_option maxRecDepth 100000 in
set_option maxHeartbeats 1600000 in
theorem PurseEnough_walk (quantum price id : Int) (hi0 : 0 ≤ id) (hi1 : id ≤ 255) (w : World) :
    Calls Try.prog 3 #[.int .i64 quantum, .int .i64 price, .int .u8 id] w fun e w' => e = .returned (.bool true) ∧ Only NoBlk w w' := by
  obtain ⟨q, hq⟩ : ∃ q, q = within quantum 1 1000000 := ⟨_, rfl⟩
  have hq0 : 1 ≤ q := by rw [hq]; unfold within; split <;> (try split) <;> omega
  have hq1 : q ≤ 1000000 := by rw [hq]; unfold within; split <;> (try split) <;> omega
  have hmq : (newPurse 200 quantum).q = q := by rw [hq]; unfold newPurse clip within; simp only; split <;> (try split) <;> omega
  obtain ⟨pr, hpr⟩ : ∃ pr, pr = within price 0 (40 * q) := ⟨_, rfl⟩
  have hp0 : 0 ≤ pr := by rw [hpr]; unfold within; split <;> (try split) <;> omega
  have hp1 : pr ≤ 40 * q := by rw [hpr]; unfold within; split <;> (try split) <;> omega
  have hlen : (newPurse 200 quantum).l.length = 200 := by show (zeros _).length = 200; rw [zeros_len]; rfl
  have ok0 := newPurse_ok 200 quantum
  have hst : (newPurse 200 quantum).put (id % 200) (((0 : Nat) : Int) * q) = newPurse 200 quantum := by
    rw [show ((0 : Nat) : Int) * q = 0 by simp]
    have := PurseM.put_self (newPurse 200 quantum) (id % 200)
    rwa [newPurse_has] at this
  obtain ⟨i, hi⟩ : ∃ i, i = id % 200 := ⟨_, rfl⟩
  have hir0 : 0 ≤ i := by omega
  have hir1 : i < 200 := by omega
  rw [← hi] at hst
  have Hq := hide hq
  have Hpr := hide hpr
  have Hlen := hide hlen
  have Hst := hide hst
  have Hmq := hide hmq
  have Hi := hide hi
  clear hq hpr hlen hst hmq hi
  go_enter Try.func3, Try.ntmps3
  go_wp2_with fail
  refine (New_c 200 quantum _).mono ?_
  rintro e w1 ⟨rfl, hp, ho, hs⟩
  go_wp2_with fail
  refine (within_c quantum 1 1000000 _).mono ?_
  rintro e w2 ⟨rfl, rfl⟩
  rw [← Hq.out]
  go_wp2_with fail
  refine (within_c price 0 (40 * q) _).mono ?_
  rintro e w2 ⟨rfl, rfl⟩
  rw [← Hpr.out]
  go_wp2_with fail
  go_loopw [8] (fun x wr => ∃ k : Nat, k ≤ 40 ∧ x = .int .i64 k ∧ PurseAt wr (w.heap.size + 1) w.heap.size ((newPurse 200 quantum).put i ((k : Int) * q)) ∧ Only NoBlk w wr ∧ (k = 0 ∨ ((k : Int) - 1) * q < pr))
    (fun x _ => 41 - (intOf x).toNat)
  case atStart => exact ⟨0, by omega, rfl, by rw [Hst.out]; exact hp, ho, Or.inl rfl⟩
  case round =>
    obtain ⟨k, hk, rfl, hpk, hok, hlast⟩ := hrel
    obtain ⟨b0, b1⟩ := mul_bd k q 40 hk (by omega) hq1
    obtain ⟨b2, b3⟩ := mul_bd (k + 1) q 41 (by omega) (by omega) hq1
    have ek : (((k + 1 : Nat) : Int)) = (k : Int) + 1 := by omega
    rw [ek] at b2 b3
    replace b1 : (k : Int) * q ≤ 40000000 := by omega
    replace b3 : ((k : Int) + 1) * q ≤ 41000000 := by omega
    have eadd : ((k : Int) + 1) * q = (k : Int) * q + q := by rw [Int.add_mul, Int.one_mul]
    have ok1 : ((newPurse 200 quantum).put i ((k : Int) * q)).Ok := ok0.put i b0 (by omega)
    have hcan := enough_can (newPurse 200 quantum) i ((k : Int) * q) pr hir0 (by rw [Hlen.out]; omega) hp0
    have hgive := enough_give (newPurse 200 quantum) i q k Hmq.out hir0 (by rw [Hlen.out]; omega) (by omega)
    have hhas := PurseM.put_has (m := newPurse 200 quantum) (id := i) (v := ((k : Int) + 1) * q) hir0 (by rw [Hlen.out]; omega)
    have Hcan := hide hcan
    have Hgive := hide hgive
    have Hhas := hide hhas
    have Hlast := hide hlast
    have Eadd := hide eadd
    have Ok1 := hide ok1
    have Hpk := hide hpk
    clear hcan hgive hhas hlast ek eadd ok1 hpk
    by_cases hc : pr ≤ (k : Int) * q
    · have hpay : ((newPurse 200 quantum).put i ((k : Int) * q)).pay i pr = (newPurse 200 quantum).put i ((k : Int) * q - pr) := by
        unfold PurseM.pay
        rw [Hcan.out, decide_eq_true hc, if_pos rfl, PurseM.put_has hir0 (by rw [Hlen.out]; omega), PurseM.put_put, show max pr 0 = pr by omega]
      have hhas2 := PurseM.put_has (m := newPurse 200 quantum) (id := i) (v := (k : Int) * q - pr) hir0 (by rw [Hlen.out]; omega)
      have Hpay := hide hpay
      have Hhas2 := hide hhas2
      clear hpay hhas2
      by_cases hk0 : k = 0
      · have hkb : ((k : Int) == 0) = true := by simp [hk0]
        clear hk0
        go_wp2_with fail
        rw [← Hi.out]
        refine (Pay_c i pr Hpk.out Ok1.out).mono ?_
        rintro e w2 ⟨he, hp2, ho2⟩
        rw [Hcan.out, decide_eq_true hc] at he
        subst he
        rw [Hpay.out] at hp2
        go_wp2_with fail
        rw [← Hi.out]
        refine (Has_c i hp2 (ok0.put i (by omega) (by omega))).mono ?_
        rintro e w3 ⟨he, rfl⟩
        rw [Hhas2.out] at he
        subst he
        go_wp2_with fail
        refine (purse_lives _).mono ?_
        rintro e w3 ⟨rfl, ho3⟩
        go_wp2_with fail
        go_ret
        exact ⟨rfl, (hok.fresh ho2 (fun j _ hj => Or.inr (by omega))).trans ho3⟩
      · have hkb : ((k : Int) == 0) = false := by simp; omega
        have hl : ((k : Int) - 1) * q < pr := by
          rcases Hlast.out with h | h
          · exact absurd h hk0
          · exact h
        have b4 : 0 ≤ ((k : Int) - 1) * q := by
          have := (mul_bd (k - 1) q 40 (by omega) (by omega) hq1).1
          rwa [show (((k - 1 : Nat) : Int)) = (k : Int) - 1 by omega] at this
        have hlb : decide (((k : Int) - 1) * q < pr) = true := decide_eq_true hl
        clear hk0
        go_wp2_with fail
        rw [← Hi.out]
        refine (Pay_c i pr Hpk.out Ok1.out).mono ?_
        rintro e w2 ⟨he, hp2, ho2⟩
        rw [Hcan.out, decide_eq_true hc] at he
        subst he
        rw [Hpay.out] at hp2
        go_wp2_with fail
        rw [← Hi.out]
        refine (Has_c i hp2 (ok0.put i (by omega) (by omega))).mono ?_
        rintro e w3 ⟨he, rfl⟩
        rw [Hhas2.out] at he
        subst he
        go_wp2_with fail
        refine (purse_lives _).mono ?_
        rintro e w3 ⟨rfl, ho3⟩
        go_wp2_with fail
        go_ret
        exact ⟨rfl, (hok.fresh ho2 (fun j _ hj => Or.inr (by omega))).trans ho3⟩
    · have hlt : (k : Int) * q < pr := by omega
      have hc1 : decide (pr ≤ (k : Int) * q) = false := by simp; omega
      have hk39 : k < 40 := by
        rcases Nat.lt_or_ge k 40 with h | h
        · exact h
        · obtain rfl : k = 40 := by omega
          omega
      go_wp2_with fail
      rw [← Hi.out]
      refine (Pay_c i pr Hpk.out Ok1.out).mono ?_
      rintro e w2 ⟨he, hp2, ho2⟩
      rw [Hcan.out, hc1] at he
      subst he
      go_wp2_with fail
      rw [← Hi.out]
      refine (Give_c i hp2 (Ok1.out.pay i pr)).mono ?_
      rintro e w3 ⟨he, hp3, ho3⟩
      have hpay : ((newPurse 200 quantum).put i ((k : Int) * q)).pay i pr = (newPurse 200 quantum).put i ((k : Int) * q) := by
        unfold PurseM.pay
        rw [Hcan.out, hc1]
        rfl
      rw [hpay, Hgive.out] at hp3 he
      rw [Hhas.out] at he
      subst he
      clear hpay
      go_wp2
      go_roundw
      case rel =>
        refine ⟨k + 1, by omega, by go_num, ?_, hok.fresh (ho2.trans ho3) (fun j _ hj => Or.inr (by omega)), Or.inr ?_⟩
        · rw [show (((k + 1 : Nat) : Int)) = (k : Int) + 1 by omega]; exact hp3
        · rw [show (((k + 1 : Nat) : Int)) - 1 = (k : Int) by omega]; exact hlt
      case measure => simp [intOf]; omega
end Go.Proofs.Ytmkbhejbbhikcaa
