/- The walk of TurnsWait. Conditions: those of the theorem. -/
import Derived.Test.YtmkbhejbbhikcaaWaitPlain
import Derived.Test.YtmkbhejbbhikcaaTurnsFairW
import Derived.Test.YtmkbhejbbhikcaaPurseApartW
namespace Go.Proofs.Ytmkbhejbbhikcaa
open Go.RowKit
set_option linter.unusedVariables false

theorem PurseM.pay_q (m : PurseM) (id price : Int) : (m.pay id price).q = m.q := by
  unfold PurseM.pay
  split
  · exact PurseM.put_q _ _ _
  · rfl
theorem WaitAt.ends {x : Int} {r : List Int} {m : PurseM} {i j : Nat} {q p : Int} (h : WaitAt (x :: r) m i j q p) (hx : x ≠ 2) (hx0 : 0 ≤ x) (s : TS) (hw : s.who = x) (hL : s.L = r) (hl : s.m.l.length = 5) (hq : s.m.q = q) (hh : s.m.has 2 = m.has 2) (ag : Bool) :
    WaitAt (s.end_ 5 ag).L (s.end_ 5 ag).m (i + 1) j q p := by
  unfold TS.end_
  rw [if_neg (by omega)]
  cases ag
  · show WaitAt s.L (s.m.clear s.who) (i + 1) j q p
    rw [hL, hw]
    exact h.other hx _ ((PurseM.put_len _ _ _).trans hl) ((PurseM.put_q _ _ _).trans hq) ((PurseM.clear_far (fun e => hx e.symm)).trans hh)
  · show WaitAt (pushL 5 s.L s.who) s.m (i + 1) j q p
    rw [hL]
    exact (h.other hx _ hl hq hh).push _
theorem WaitAt.gave {r : List Int} {m : PurseM} {i j : Nat} {q p : Int} (h : WaitAt (2 :: r) m i j q p) (hj : (j : Int) ≤ 1000) (hq9 : q ≤ 9) : (m.give 2).has 2 = q * ((j + 1 : Nat) : Int) := by
  unfold PurseM.give
  rw [PurseM.put_has (by omega) (by rw [h.len]; omega), h.has, h.mq]
  have e : q * ((j + 1 : Nat) : Int) = q * j + q := by rw [Int.natCast_add, Int.mul_add]; omega
  have b : q * (j : Int) ≤ 9 * 1000 := by
    have h1 : q * (j : Int) ≤ 9 * (j : Int) := Int.mul_le_mul_of_nonneg_right hq9 (by omega)
    omega
  rw [e]
  omega
/-- another one's turn, whatever it pays -/
theorem WaitAt.turn {x : Int} {r : List Int} {m : PurseM} {i j : Nat} {q p : Int} (h : WaitAt (x :: r) m i j q p) (hx : x ≠ 2) (hx0 : 0 ≤ x) (d : Int) (ag : Bool) :
    (TS.end_ ⟨r, m.give x, x, d⟩ 5 ag).who = -1 ∧ (TS.end_ ⟨r, m.give x, x, d⟩ 5 ag).done = d ∧ WaitAt (TS.end_ ⟨r, m.give x, x, d⟩ 5 ag).L (TS.end_ ⟨r, m.give x, x, d⟩ 5 ag).m (i + 1) j q p :=
  have E := end_on (s := ⟨r, m.give x, x, d⟩) (n := 5) hx0 ag
  ⟨E.1, E.2.1, h.ends hx hx0 ⟨r, m.give x, x, d⟩ rfl rfl ((PurseM.put_len _ _ _).trans h.len) ((PurseM.put_q _ _ _).trans h.mq) (PurseM.give_far (fun e => hx e.symm)) ag⟩
theorem WaitAt.turnPay {x : Int} {r : List Int} {m : PurseM} {i j : Nat} {q p : Int} (h : WaitAt (x :: r) m i j q p) (hx : x ≠ 2) (hx0 : 0 ≤ x) (d an : Int) (ag : Bool) :
    (((TS.mk r (m.give x) x d).pay an).end_ 5 ag).who = -1 ∧ (((TS.mk r (m.give x) x d).pay an).end_ 5 ag).done = d ∧ WaitAt (((TS.mk r (m.give x) x d).pay an).end_ 5 ag).L (((TS.mk r (m.give x) x d).pay an).end_ 5 ag).m (i + 1) j q p := by
  have e : (TS.mk r (m.give x) x d).pay an = ⟨r, (m.give x).pay x an, x, d⟩ := by
    unfold TS.pay
    rw [if_neg (by show ¬ x = -1; omega)]
  rw [e]
  have E := end_on (s := ⟨r, (m.give x).pay x an, x, d⟩) (n := 5) hx0 ag
  exact ⟨E.1, E.2.1, h.ends hx hx0 ⟨r, (m.give x).pay x an, x, d⟩ rfl rfl (((PurseM.pay_len _ _ _)).trans ((PurseM.put_len _ _ _).trans h.len)) ((PurseM.pay_q _ _ _).trans ((PurseM.put_q _ _ _).trans h.mq)) ((PurseM.pay_far (fun e => hx e.symm)).trans (PurseM.give_far (fun e => hx e.symm))) ag⟩
/-- while they wake -/
structure WWak (w wx : World) (p : TP) (k : Nat) (q : Int) : Prop where
  at_ : ∃ s, TurnsAt wx p 5 s ∧ s.who = -1 ∧ s.done = 0 ∧ s.L = firsts k ∧ s.m = newPurse 5 q
  fs : ∀ i, p.all i → w.heap.size ≤ i
  ho : Only NoBlk w wx
/-- between two turns -/
structure WFair (w wx : World) (p : TP) (i j : Nat) (q pr : Int) : Prop where
  at_ : ∃ s, TurnsAt wx p 5 s ∧ s.who = -1 ∧ s.done = i ∧ WaitAt s.L s.m i j q pr
  fs : ∀ i, p.all i → w.heap.size ≤ i
  ho : Only NoBlk w wx
set_option maxRecDepth 100000 in
set_option maxHeartbeats 1600000 in
theorem TurnsWait_walk (A : Option Addr) (c : Nat) (l : List Act3) (qu pri : Int) (hq0 : 0 ≤ qu) (hq1 : qu ≤ 255) (hp0 : 0 ≤ pri) (hp1 : pri ≤ 255) (w : World) (hr : Rd w NoBlk A (flat enc3 l)) (hn0 : l.length ≤ maxLen) :
    Calls Try.prog 14 #[.slice A l.length c, .int .u8 qu, .int .u8 pri] w fun e w' => e = .returned (.bool true) ∧ Only NoBlk w w' := by
  have hn : l.length ≤ 9223372036854775807 := hn0
  have hcell : ∀ k, k < l.length → ∃ b o, A = some ⟨b, o, none⟩ ∧ b < w.heap.size ∧ w.cell? ⟨b, o + k * 3, none⟩ = some (.int .i64 (actAt l k).k) ∧ w.cell? ⟨b, o + k * 3 + 1, none⟩ = some (.int .i64 (actAt l k).i) ∧ w.cell? ⟨b, o + k * 3 + 2, none⟩ = some (.int .i64 (actAt l k).n) := by
    intro k hk
    have hfl := flat_len enc3 3 enc3_len l
    obtain ⟨b, o, hA, _, hb, hc⟩ := hr.at_ (j := k * 3) (by omega)
    have h1 := acts_at l k hk
    exact ⟨b, o, hA, hb, by rw [hc _ (by omega)]; exact h1.1, by rw [Nat.add_assoc, hc _ (by omega)]; exact h1.2.1, by rw [Nat.add_assoc, hc _ (by omega)]; exact h1.2.2⟩
  obtain ⟨len, hnl⟩ : ∃ n, n = l.length := ⟨_, rfl⟩
  rw [← hnl] at hcell hn ⊢
  obtain ⟨q, hq⟩ : ∃ q : Int, q = 1 + qu % 9 := ⟨_, rfl⟩
  obtain ⟨pr, hpr⟩ : ∃ pr : Int, pr = pri % 60 := ⟨_, rfl⟩
  have q1 : 1 ≤ q := by omega
  have q9 : q ≤ 9 := by omega
  have p0 : 0 ≤ pr := by omega
  have p60 : pr < 60 := by omega
  have V := hide (show (clip (5 : Int) 1 1024).toNat = 5 by decide)
  have hK0 : 0 ≤ (pr + q - 1) / q := Int.ediv_nonneg (by omega) (by omega)
  have hK1 : pr + q - 1 < ((pr + q - 1) / q + 1) * q := Int.lt_ediv_add_one_mul_self _ (by omega)
  have hK2 : (pr + q - 1) / q ≤ 68 := by
    have h := Int.ediv_le_self q (show 0 ≤ pr + q - 1 by omega)
    omega
  obtain ⟨K, hK⟩ : ∃ K : Nat, (K : Int) = (pr + q - 1) / q := ⟨((pr + q - 1) / q).toNat, by omega⟩
  rw [← hK] at hK1 hK2
  have hpk : pr ≤ q * K := by
    have e : ((K : Int) + 1) * q = q * K + q := by rw [Int.add_mul, Int.mul_comm]; omega
    omega
  have HK := hide hK
  have Hpk := hide hpk
  clear hK hpk hK0 hK1
  have HQ := hide hq
  have HP := hide hpr
  have Hc := hide hcell
  clear hq hpr hcell hr hnl hn0
  go_enter Try.func14, Try.ntmps14
  go_wp2_with fail
  rw [← HQ.out, ← HP.out]
  refine (TNew_c 5 q _).mono ?_
  rintro e w1 ⟨p, rfl, h1, ho1, hk1⟩
  rw [V.out] at h1
  have hst : WWak w w1 p 0 q := ⟨⟨_, h1, rfl, rfl, rfl, rfl⟩, hk1, ho1⟩
  have Hst := hide hst
  clear h1 ho1 hk1 hst
  go_wp2_with fail
  go_loopw [12] (fun x wr => ∃ k : Nat, k ≤ 5 ∧ x = .int .i64 k ∧ WWak w wr p k q) (fun x _ => 5 - (intOf x).toNat)
  case atStart => exact ⟨0, Nat.zero_le _, rfl, Hst.out⟩
  case round =>
    clear Hst
    obtain ⟨k, hk, rfl, hst⟩ := hrel
    have Hs := hide hst
    clear hst
    by_cases hlt : k < 5
    · obtain ⟨s, hs, hw, hd, hL, hm⟩ := Hs.out.at_
      have Hw := hide (And.intro hw (And.intro hd (And.intro hL hm)))
      clear hw hd hL hm
      go_wp2_with fail
      refine (Wake_c k hs).mono ?_
      rintro e w2 ⟨rfl, h2, ho2⟩
      rw [TS.wake_free Hw.out.1, Hw.out.2.2.1, firsts_push 5 k hlt] at h2
      have hst : WWak w w2 p (k + 1) q :=
        ⟨⟨_, h2, Hw.out.1, Hw.out.2.1, rfl, Hw.out.2.2.2⟩, Hs.out.fs, Hs.out.ho.fresh ho2 (fun i _ hi => Or.inr (Hs.out.fs i hi))⟩
      have Hst := hide hst
      clear h2 ho2 hst
      go_wp2
      go_roundw
      case rel => exact ⟨k + 1, by omega, by go_num, Hst.out⟩
      case measure => simp [intOf]; omega
    · have hke : k = 5 := by omega
      subst hke
      have hst0 : WFair w wr p 0 0 q pr := by
        obtain ⟨s, hs, hw, hd, hL, hm⟩ := Hs.out.at_
        refine ⟨⟨s, hs, hw, hd, ?_⟩, Hs.out.fs, Hs.out.ho⟩
        rw [hL, hm]
        refine ⟨by decide, by decide, rfl, ?_, q1, by omega, ?_, Or.inl rfl, ⟨[0, 1], [3, 4], rfl, by decide⟩⟩
        · show clip q 1 1000000 = q
          unfold clip; omega
        · show (newPurse 5 q).has 2 = q * ((0 : Nat) : Int)
          have e : (newPurse 5 q).has 2 = 0 := rfl
          rw [e]; simp
      have Hst := hide hst0
      clear hst0
      go_upto_if 43 with fail
      go_cut [12, 13] (fun v12 v13 wx => ∃ K' : Nat, v12 = .int .i64 5 ∧ v13 = .int .i64 K' ∧ 1 ≤ K' ∧ K' ≤ 68 ∧ pr ≤ q * K' ∧ WFair w wx p 0 0 q pr)
      case first =>
        rcases Nat.eq_zero_or_pos K with hz | hz
        · subst hz
          have hq0' : (pr + q - 1) / q = 0 := HK.out.symm
          have hb : ((pr + q - 1) / q == 0) = true := by rw [hq0']; rfl
          go_wp2_with fail
          all_goals go_meet
          exact ⟨1, rfl, rfl, by omega, by omega, by have := Hpk.out; omega, Hst.out⟩
        · have hb : ((pr + q - 1) / q == 0) = false := by rw [← HK.out]; simp; omega
          go_wp2_with fail
          all_goals go_meet
          exact ⟨K, rfl, by rw [HK.out], by omega, by omega, Hpk.out, Hst.out⟩
      case rest =>
        clear Hst
        obtain ⟨K', rfl, rfl, hK1', hK68, hpk', hst⟩ := hcut
        have Hst := hide hst
        have Hpk' := hide hpk'
        clear hst hpk'
        go_wp2_with fail
        go_loopw [14] (fun x wx => ∃ i j : Nat, i ≤ 5 * K' ∧ x = .int .i64 i ∧ WFair w wx p i j q pr) (fun x _ => 5 * K' - (intOf x).toNat)
        case atStart => exact ⟨0, 0, by omega, rfl, Hst.out⟩
        case round =>
          clear Hst
          obtain ⟨i, j, hi, rfl, hst⟩ := hrel
          obtain ⟨s, hs, hw, hd, hF⟩ := hst.at_
          have hlt : i < 5 * K' := hF.over K' hK1' Hpk'.out
          have hj : (j : Int) ≤ 1000 := by
            rcases hF.low with h0 | h1
            · omega
            · have : 1 * (j : Int) ≤ q * j := Int.mul_le_mul_of_nonneg_right q1 (by omega)
              omega
          have Hs := hide hst
          obtain ⟨x, r, hL⟩ : ∃ x r, s.L = x :: r := by
            obtain ⟨A, B, e, _⟩ := hF.cut
            cases A with
            | nil => exact ⟨_, _, e⟩
            | cons a A => exact ⟨_, _, e⟩
          rw [hL] at hF
          have hxr := hF.rng x (by simp)
          have hdn : s.done < 1000000 := by omega
          have ht1 : decide ((i : Int) < 5 * (K' : Int)) = true := by simp; omega
          have Hq := hide (And.intro hw (And.intro hd hF))
          have HL := hide hL
          have Hxr := hide hxr
          clear hw hd hF hL hxr hst
          go_wp2_with fail
          refine (Begin_c hs hdn).mono ?_
          rintro e w2 ⟨he, h2, ho2⟩
          rw [(TS.begin_cons Hq.out.1 HL.out).2] at he
          rw [(TS.begin_cons Hq.out.1 HL.out).1] at h2
          subst he
          have hox := Hs.out.ho.fresh ho2 (fun i _ hi => Or.inr (Hs.out.fs i hi))
          have Ho := hide hox
          have H2 := hide h2
          clear h2 ho2 hox
          by_cases hx0 : x = 2
          · subst hx0
            have hg := Hq.out.2.2.gave hj q9
            have hln : (s.m.give 2).l.length = 5 := (PurseM.put_len _ _ _).trans Hq.out.2.2.len
            have hcan : (TS.mk r (s.m.give 2) 2 (s.done + 1)).can pr = decide (pr ≤ q * ((j + 1 : Nat) : Int)) := by
              unfold TS.can
              rw [if_neg (by show ¬ (2 : Int) = -1; omega)]
              show PurseM.can (s.m.give 2) 2 pr = _
              unfold PurseM.can
              rw [hg, hln]
              apply decide_eq_decide.2
              omega
            have hpay : (TS.mk r (s.m.give 2) 2 (s.done + 1)).pay pr = ⟨r, (s.m.give 2).pay 2 pr, 2, s.done + 1⟩ := by
              unfold TS.pay
              rw [if_neg (by show ¬ (2 : Int) = -1; omega)]
            have Hp := hide (And.intro hcan (And.intro hpay (And.intro hg hln)))
            clear hcan hpay hg hln
            by_cases hc : pr ≤ q * ((j + 1 : Nat) : Int)
            · have Hd := hide (decide_eq_true hc)
              clear hc
              go_wp2_with (first
                | (go_at_call 68; refine (TPay_c pr H2.out).mono ?_; rintro e w3 ⟨he, h3, ho3⟩; rw [Hp.out.1, Hd.out] at he; subst he; have R3 := hide (Ho.out.fresh ho3 (fun i _ hi => Or.inr (Hs.out.fs i hi))); clear h3 ho3)
                | (go_at_call 69; refine (turns_lives _).mono ?_; rintro e w4 ⟨rfl, ho4⟩))
              go_ret
              exact ⟨rfl, R3.out.trans ho4⟩
            · have Hd := hide (decide_eq_false hc)
              have Hc2 := hide hc
              clear hc
              go_wp2_with (first
                | (go_at_call 68; refine (TPay_c pr H2.out).mono ?_; rintro e w3 ⟨he, h3, ho3⟩; rw [Hp.out.1, Hd.out] at he; subst he; rw [Hp.out.2.1] at h3; have R3 := hide (And.intro h3 (Ho.out.fresh ho3 (fun i _ hi => Or.inr (Hs.out.fs i hi)))); clear h3 ho3)
                | (go_at_call 70; refine (End_c true R3.out.1).mono ?_; rintro e w4 ⟨rfl, h4, ho4⟩; have R4 := hide (And.intro h4 (R3.out.2.fresh ho4 (fun i _ hi => Or.inr (Hs.out.fs i hi)))); clear h4 ho4))
              go_roundw
              case rel =>
                have hnc : PurseM.can (s.m.give 2) 2 pr = false := by
                  have h := Hp.out.1.trans Hd.out
                  unfold TS.can at h
                  rwa [if_neg (by show ¬ (2 : Int) = -1; omega)] at h
                have hpm : (s.m.give 2).pay 2 pr = s.m.give 2 := by
                  unfold PurseM.pay
                  rw [if_neg (by rw [hnc]; decide)]
                have h4 := R4.out.1
                rw [hpm] at h4
                refine ⟨i + 1, j + 1, by omega, by go_num, ⟨_, h4, rfl, ?_, ?_⟩, Hs.out.fs, R4.out.2⟩
                · show s.done + 1 = _
                  rw [Hq.out.2.1]; omega
                · show WaitAt (pushL 5 r 2) (s.m.give 2) (i + 1) (j + 1) q pr
                  exact Hq.out.2.2.own _ Hp.out.2.2.2 ((PurseM.put_q _ _ _).trans Hq.out.2.2.mq) Hp.out.2.2.1 (by have := Hc2.out; omega)
              case measure => simp [intOf]; omega
          · have hb3 : (x == 2) = false := by simp [hx0]
            have hxp : 0 ≤ x := Hxr.out.1
            by_cases hil : i < len
            · obtain ⟨b, o, rfl, hbl, g0, g1, g2⟩ := Hc.out i hil
              replace g0 := (Ho.out.cell (p := ⟨b, o + i * 3, none⟩) hbl (fun h => h)).trans g0
              replace g1 := (Ho.out.cell (p := ⟨b, o + i * 3 + 1, none⟩) hbl (fun h => h)).trans g1
              replace g2 := (Ho.out.cell (p := ⟨b, o + i * 3 + 2, none⟩) hbl (fun h => h)).trans g2
              obtain ⟨⟨ak, ai, an⟩, hact⟩ : ∃ a, a = actAt l i := ⟨_, rfl⟩
              rw [← hact] at g0 g1 g2
              simp only at g0 g1 g2
              clear hact
              have hil2 : decide ((i : Int) < (len : Int)) = true := by simp; omega
              have hbp : ¬ p.all b := fun h => by have := Hs.out.fs _ h; omega
              by_cases hai : ai = 2
              · have hb5 : (ai != 2) = false := by simp [hai]
                have hb6 : (ai == 2) = true := by simp [hai]
                clear hai
                go_wp2_with (first
                  | (go_at_call 68; refine (TPay_c an H2.out).mono ?_; rintro e w3 ⟨rfl, h3, ho3⟩; have R3 := hide (And.intro h3 (Ho.out.fresh ho3 (fun i _ hi => Or.inr (Hs.out.fs i hi)))); replace g0 := okeep ho3 hbp g0; replace g1 := okeep ho3 hbp g1; clear h3 ho3)
                  | (go_at_call 70; refine (End_c _ R3.out.1).mono ?_; rintro e w4 ⟨rfl, h4, ho4⟩; have R4 := hide (And.intro h4 (R3.out.2.fresh ho4 (fun i _ hi => Or.inr (Hs.out.fs i hi)))); replace g1 := okeep ho4 hbp g1; clear h4 ho4))
                go_roundw
                case rel =>
                  have T := Hq.out.2.2.turnPay hx0 hxp (s.done + 1) an (ak.tmod 2 == 0)
                  exact ⟨i + 1, j, by omega, by go_num, ⟨_, R4.out.1, T.1, by rw [T.2.1, Hq.out.2.1]; omega, T.2.2⟩, Hs.out.fs, R4.out.2⟩
                case measure => simp [intOf]; omega
              · have hb5 : (ai != 2) = true := by simp [hai]
                have hb6 : (ai == 2) = false := by simp [hai]
                clear hai
                go_wp2_with (first
                  | (go_at_call 68; refine (TPay_c an H2.out).mono ?_; rintro e w3 ⟨rfl, h3, ho3⟩; have R3 := hide (And.intro h3 (Ho.out.fresh ho3 (fun i _ hi => Or.inr (Hs.out.fs i hi)))); replace g0 := okeep ho3 hbp g0; replace g1 := okeep ho3 hbp g1; clear h3 ho3)
                  | (go_at_call 70; refine (End_c _ R3.out.1).mono ?_; rintro e w4 ⟨rfl, h4, ho4⟩; have R4 := hide (And.intro h4 (R3.out.2.fresh ho4 (fun i _ hi => Or.inr (Hs.out.fs i hi)))); replace g1 := okeep ho4 hbp g1; clear h4 ho4)
                  | (go_at_call 66; refine (Wake_c _ R4.out.1).mono ?_; rintro e w5 ⟨rfl, h5, ho5⟩; have R5 := hide (And.intro h5 (R4.out.2.fresh ho5 (fun i _ hi => Or.inr (Hs.out.fs i hi)))); clear h5 ho5))
                go_roundw
                case rel =>
                  have T := Hq.out.2.2.turnPay hx0 hxp (s.done + 1) an (ak.tmod 2 == 0)
                  have h5 := R5.out.1
                  rw [TS.wake_free T.1] at h5
                  exact ⟨i + 1, j, by omega, by go_num, ⟨_, h5, T.1, by show TS.done _ = _; rw [T.2.1, Hq.out.2.1]; omega, T.2.2.push _⟩, Hs.out.fs, R5.out.2⟩
                case measure => simp [intOf]; omega
            · have hil2 : decide ((i : Int) < (len : Int)) = false := by simp; omega
              have hil3 : decide (i < len) = false := by simp; omega
              have hil4 : len ≤ i := by omega
              clear hil
              go_wp2_with (first
                | (go_at_call 70; refine (End_c _ H2.out).mono ?_; rintro e w4 ⟨rfl, h4, ho4⟩; have R4 := hide (And.intro h4 (Ho.out.fresh ho4 (fun i _ hi => Or.inr (Hs.out.fs i hi)))); clear h4 ho4))
              go_roundw
              case rel =>
                have T := Hq.out.2.2.turn hx0 hxp (s.done + 1) true
                exact ⟨i + 1, j, by omega, by go_num, ⟨_, R4.out.1, T.1, by rw [T.2.1, Hq.out.2.1]; omega, T.2.2⟩, Hs.out.fs, R4.out.2⟩
              case measure => simp [intOf]; omega
end Go.Proofs.Ytmkbhejbbhikcaa
