/- The walk of RingOrders. Conditions: those of the theorem. -/
import Derived.Test.YtmkbhejbbhikcaaRingSt
import Derived.Test.YtmkbhejbbhikcaaTexts
import Derived.Test.YtmkbhejbbhikcaaU8s
namespace Go.Proofs.Ytmkbhejbbhikcaa
open Go.RowKit
set_option linter.unusedVariables false
theorem ba_assoc (a b c : ByteArray) : a ++ b ++ c = a ++ (b ++ c) := by
  apply ba_ext
  rw [ba_app, ba_app, ba_app, ba_app, List.append_assoc]
theorem ba_split (S : ByteArray) (k : Nat) (h : k ≤ S.size) : S.extract 0 k ++ S.extract k S.size = S := by
  apply ba_ext
  rw [ba_app, ba_sub, ba_sub, List.drop_zero, Nat.sub_zero]
  have e : List.take (S.size - k) (List.drop k S.data.toList) = List.drop k S.data.toList := List.take_of_length_le (by rw [List.length_drop, ba_size]; omega)
  rw [e, List.take_append_drop]
theorem ba_app_size (a b : ByteArray) : (a ++ b).size = a.size + b.size := by rw [← ba_size, ba_app, List.length_append, ba_size, ba_size]
set_option maxRecDepth 100000 in
set_option maxHeartbeats 1600000 in
theorem RingOrders_walk (most : Int) (m0 : 0 ≤ most) (m1 : most ≤ 255) (A B : Option Addr) (c d : Nat) (l : List ByteArray) (t : List Int) (w : World) (hr : Rd w NoBlk A (strs l)) (hl : ∀ k, k < l.length → (nthS l k).size ≤ maxLen) (hn0 : l.length ≤ maxLen)
    (ht : Rd w NoBlk B (u8s t)) (hb : ∀ k, k < t.length → 0 ≤ nth t k ∧ nth t k ≤ 255) (ht0 : t.length ≤ maxLen) :
    Calls Try.prog 8 #[.int .u8 most, .slice A l.length c, .slice B t.length d] w fun e w' => e = .returned (.bool true) ∧ Only NoBlk w w' := by
  have hn : l.length ≤ 9223372036854775807 := hn0
  have htn : t.length ≤ 9223372036854775807 := ht0
  have hcell : ∀ k, k < l.length → ∃ b o, A = some ⟨b, o, none⟩ ∧ b < w.heap.size ∧ w.cell? ⟨b, o + k, none⟩ = some (.string (nthS l k)) ∧ (nthS l k).size ≤ maxLen := by
    intro k hk
    obtain ⟨b, o, hA, _, hbb, hc⟩ := hr.at_ (j := k) (by simpa [strs] using hk)
    exact ⟨b, o, hA, hbb, by rw [hc k (by simpa [strs] using hk)]; exact strs_at l k hk, hl k hk⟩
  have tcell : ∀ k, k < t.length → ∃ b o, B = some ⟨b, o, none⟩ ∧ b < w.heap.size ∧ w.cell? ⟨b, o + k, none⟩ = some (.int .u8 (nth t k)) ∧ 0 ≤ nth t k ∧ nth t k ≤ 255 := by
    intro k hk
    obtain ⟨b, o, hA, _, hbb, hc⟩ := ht.at_ (j := k) (by simpa [u8s] using hk)
    refine ⟨b, o, hA, hbb, ?_, hb k hk⟩
    rw [hc k (by simpa [u8s] using hk)]
    simp [u8s, nth, List.getD, hk]
  obtain ⟨n, hnl⟩ : ∃ n, n = l.length := ⟨_, rfl⟩
  obtain ⟨m, hml⟩ : ∃ m, m = t.length := ⟨_, rfl⟩
  rw [← hnl] at hcell hn ⊢
  rw [← hml] at tcell htn ⊢
  have Hc := hide hcell
  have Ht := hide tcell
  obtain ⟨N, hN⟩ : ∃ N : Nat, N = (clip (1 + most % 12) 1 4096).toNat := ⟨_, rfl⟩
  have hN12 : N ≤ 12 := by rw [hN]; unfold clip; omega
  have HN := hide hN
  clear hr ht hl hb hn0 ht0 hcell tcell hnl hml hN
  go_enter Try.func8, Try.ntmps8
  go_wp2_with fail
  refine (New_s w _ w (Only.refl _ _)).mono ?_
  rintro e w1 ⟨p, h, rfl, hst, _, _, _⟩
  rw [← HN.out] at hst
  have Hst := hide hst
  clear hst
  go_wp2_with fail
  go_loopw [8, 9, 10] (fun vi vo x wr => ∃ (k : Nat) (I O S : ByteArray), k ≤ n ∧ k ≤ 24 ∧ vi = .string I ∧ vo = .string O ∧ x = .int .i64 k ∧ I.size ≤ 15 * k ∧ O.size ≤ 15 * k ∧ Hid (I = O ++ S) ∧ RSt w wr p h N S) (fun _ _ x _ => n - (intOf x).toNat)
  case atStart => exact ⟨0, ⟨#[]⟩, ⟨#[]⟩, ⟨#[]⟩, Nat.zero_le _, by omega, rfl, rfl, rfl, by decide, by decide, rfl, Hst.out⟩
  case round =>
    clear Hst
    obtain ⟨k, I, O, S, hk, hk24, rfl, rfl, rfl, hI, hO, hE, hst⟩ := hrel
    have Hs := hide hst
    have hfit := hst.fit
    by_cases hboth : k < n ∧ k < 24
    · obtain ⟨hlt, hlt24⟩ := hboth
      obtain ⟨b, o, rfl, hbl, g0, hsz⟩ := Hc.out k hlt
      replace g0 := (hst.ho.cell (p := ⟨b, o + k, none⟩) hbl (fun h => h)).trans g0
      clear hst
      obtain ⟨s, hs⟩ : ∃ s, s = nthS l k := ⟨_, rfl⟩
      rw [← hs] at g0 hsz
      clear hs
      obtain ⟨s', hs'⟩ : ∃ s', s' = cutS s 15 := ⟨_, rfl⟩
      have hs15 : s'.size ≤ 15 := by rw [hs', cutS_size]; omega
      have HS' := hide hs'
      have hle := rput_le N S s'
      obtain ⟨q, hq⟩ : ∃ q, q = rput N S s' := ⟨_, rfl⟩
      have hqN : S.size + q ≤ N := by rw [hq]; unfold rput; omega
      rw [← hq] at hle
      have Hq := hide hq
      have hd1 : decide ((s'.size : Int) < q) = false := by simp; omega
      have hd2 : decide (s'.size < q) = false := by simp; omega
      clear hs' hq
      have hI2 : I.size + q ≤ 9223372036854775807 := by omega
      have hr1 : (rputS N S s').size = S.size + q := by rw [rputS_size, ← Hq.out]
      have hqs : rputS N S s' = S ++ s'.extract 0 q := by rw [Hq.out]; rfl
      have HR1 := hide hr1
      have HQS := hide hqs
      have hwr1 : ((S.size : Int) + q + ((N : Int) - ((S.size : Int) + q)) != N) = false := by simp; omega
      clear hr1 hqs
      have arms : True := trivial
      by_cases hkm : k < m
      · obtain ⟨b2, o2, rfl, hbl2, t0, tl0, tl1⟩ := Ht.out k hkm
        replace t0 := (Hs.out.ho.cell (p := ⟨b2, o2 + k, none⟩) hbl2 (fun h => h)).trans t0
        have hnp : ¬ (b2 = p ∨ b2 = h) := by have := Hs.out.fs; omega
        obtain ⟨tv, htv⟩ : ∃ tv, tv = nth t k := ⟨_, rfl⟩
        rw [← htv] at t0 tl0 tl1
        clear htv
        obtain ⟨D, hD⟩ : ∃ D, D = (rputS N S s').extract 0 (tk (tv % 9) (rputS N S s')) := ⟨_, rfl⟩
        have hDs : O.size + D.size ≤ 15 * k + 12 := by
          have h1 := tk_le (tv % 9) (rputS N S s')
          have h2 := ba_sub_size (rputS N S s') 0 (tk (tv % 9) (rputS N S s')) (Nat.zero_le _) h1
          have h3 := HR1.out
          rw [hD, h2]; omega
        have hDs2 : O.size + D.size ≤ 9223372036854775807 := by omega
        have HD := hide hD
        clear hD
        go_wp2_with (first
          | (go_at_call 32; refine (cutS_c s 15 _ (by omega)).mono ?_; rw [← HS'.out]; rintro e w2 ⟨rfl, rfl⟩)
          | (go_at_call 34; refine (Put_s s' (by unfold maxLen; omega) Hs.out).mono ?_; rw [← Hq.out]; rintro e w3 ⟨rfl, h3, ho3⟩; have H3 := hide h3; replace t0 := okeep ho3 hnp t0; clear h3 ho3)
          | (go_at_call 42; refine (Len_s H3.out).mono ?_; rw [HR1.out]; rintro e w4 ⟨rfl, rfl⟩)
          | (go_at_call 43; refine (Room_s H3.out).mono ?_; rw [HR1.out]; rintro e w4 ⟨rfl, hb4⟩; have H4 := hide (H3.out.below hb4); replace t0 := bkeep hb4 t0; clear hb4)
          | (go_at_call 44; refine (Most_s H4.out).mono ?_; rintro e w5 ⟨rfl, rfl⟩)
          | (go_at_call 35; refine (Take_s _ H4.out).mono ?_; rw [← HD.out]; rintro e w6 ⟨rfl, h6, ho6⟩; have H6 := hide h6; clear h6 ho6))
        go_roundw
        case rel =>
          refine ⟨k + 1, I ++ s'.extract 0 q, O ++ D, _, by omega, by omega, rfl, rfl, by go_num, ?_, ?_, ?_, H6.out⟩
          · rw [ba_app_size, ba_sub_size s' 0 q (Nat.zero_le _) hle]; omega
          · rw [ba_app_size]; omega
          · show _ = _
            rw [hE.out, HD.out, ba_assoc, ba_assoc, ba_split _ _ (tk_le _ _), HQS.out]
        case measure => simp [intOf]; omega
      · have hkm1 : decide ((k : Int) < m) = false := by simp; omega
        have hkm2 : decide (k < m) = false := by simp; omega
        have hkm3 : m ≤ k := by omega
        clear hkm
        go_wp2_with (first
          | (go_at_call 32; refine (cutS_c s 15 _ (by omega)).mono ?_; rw [← HS'.out]; rintro e w2 ⟨rfl, rfl⟩)
          | (go_at_call 34; refine (Put_s s' (by unfold maxLen; omega) Hs.out).mono ?_; rw [← Hq.out]; rintro e w3 ⟨rfl, h3, ho3⟩; have H3 := hide h3; clear h3 ho3)
          | (go_at_call 42; refine (Len_s H3.out).mono ?_; rw [HR1.out]; rintro e w4 ⟨rfl, rfl⟩)
          | (go_at_call 43; refine (Room_s H3.out).mono ?_; rw [HR1.out]; rintro e w4 ⟨rfl, hb4⟩; have H4 := hide (H3.out.below hb4); clear hb4)
          | (go_at_call 44; refine (Most_s H4.out).mono ?_; rintro e w5 ⟨rfl, rfl⟩))
        go_roundw
        case rel =>
          refine ⟨k + 1, I ++ s'.extract 0 q, O, _, by omega, by omega, rfl, rfl, by go_num, ?_, by omega, ?_, H4.out⟩
          · rw [ba_app_size, ba_sub_size s' 0 q (Nat.zero_le _) hle]; omega
          · show _ = _
            rw [hE.out, ba_assoc, HQS.out]
        case measure => simp [intOf]; omega
    · have hd : (decide ((k : Int) < n) && decide ((k : Int) < 24)) = false := by
        rw [Bool.and_eq_false_iff]
        simp only [decide_eq_false_iff_not]
        omega
      have hOs : O.size + S.size ≤ 9223372036854775807 := by omega
      have hEx : S.extract 0 S.size = S := by
        apply ba_ext
        rw [ba_sub, List.drop_zero]
        exact List.take_of_length_le (by rw [ba_size]; omega)
      have hT : tk S.size S = S.size := by unfold tk; omega
      have hZ : (S.extract S.size S.size).size = 0 := by rw [ba_none]; rfl
      have HEx := hide hEx
      have HT := hide hT
      have HZ := hide hZ
      clear hst hEx hT hZ
      obtain rfl : I = O ++ S := hE.out
      by_cases hlt : k < n
      · have he : k = 24 := by omega
        subst he
        clear hboth hd
        go_wp2_with (first
          | (go_at_call 35; refine (Take_s _ Hs.out).mono ?_; rw [HT.out, HEx.out]; rintro e w6 ⟨rfl, h6, ho6⟩; have H6 := hide h6; clear h6 ho6)
          | (go_at_call 42; refine (Len_s Hs.out).mono ?_; rintro e w4 ⟨rfl, rfl⟩; have tok : True := trivial)
          | (go_at_call 42; refine (Len_s H6.out).mono ?_; rw [HZ.out]; rintro e w4 ⟨rfl, rfl⟩)
          | (go_at_call 41; refine (ring_lives _).mono ?_; rintro e w7 ⟨rfl, ho7⟩))
        go_ret
        exact ⟨rfl, H6.out.ho.trans ho7⟩
      · have hd1 : decide ((k : Int) < n) = false := by simp; omega
        have hd2 : decide (k < n) = false := by simp; omega
        have hd3 : n ≤ k := by omega
        clear hboth hd hlt
        go_wp2_with (first
          | (go_at_call 35; refine (Take_s _ Hs.out).mono ?_; rw [HT.out, HEx.out]; rintro e w6 ⟨rfl, h6, ho6⟩; have H6 := hide h6; clear h6 ho6)
          | (go_at_call 42; refine (Len_s Hs.out).mono ?_; rintro e w4 ⟨rfl, rfl⟩; have tok : True := trivial)
          | (go_at_call 42; refine (Len_s H6.out).mono ?_; rw [HZ.out]; rintro e w4 ⟨rfl, rfl⟩)
          | (go_at_call 41; refine (ring_lives _).mono ?_; rintro e w7 ⟨rfl, ho7⟩))
        go_ret
        exact ⟨rfl, H6.out.ho.trans ho7⟩
end Go.Proofs.Ytmkbhejbbhikcaa
