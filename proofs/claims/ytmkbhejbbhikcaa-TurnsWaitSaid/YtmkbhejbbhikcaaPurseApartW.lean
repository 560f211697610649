/- The walk of PurseApart. Conditions: those of the theorem. -/
import Derived.Test.YtmkbhejbbhikcaaPurse3
import Derived.Test.YtmkbhejbbhikcaaActs
namespace Go.Proofs.Ytmkbhejbbhikcaa
open Go.RowKit

theorem PurseM.give_far {m : PurseM} {id k : Int} (h : k ≠ id) : (m.give id).has k = m.has k := PurseM.put_far h
theorem PurseM.pay_far {m : PurseM} {id k p : Int} (h : k ≠ id) : (m.pay id p).has k = m.has k := by
  unfold PurseM.pay
  split
  · exact PurseM.put_far h
  · rfl
theorem PurseM.clear_far {m : PurseM} {id k : Int} (h : k ≠ id) : (m.clear id).has k = m.has k := PurseM.put_far h

/-- what the round has of the purse -/
def ApartAt (w wr : World) (i : Int) : Prop := ∃ m : PurseM, PurseAt wr (w.heap.size + 1) w.heap.size m ∧ m.Ok ∧ m.has i = 7 ∧ Only NoBlk w wr

set_option maxRecDepth 100000 in
set_option maxHeartbeats 1600000 in
theorem PurseApart_walk (A : Option Addr) (c : Nat) (l : List Act3) (id : Int) (hi0 : 0 ≤ id) (hi1 : id ≤ 255) (w : World) (hr : Rd w NoBlk A (flat enc3 l)) (hn0 : l.length ≤ maxLen) :
    Calls Try.prog 4 #[.slice A l.length c, .int .u8 id] w fun e w' => e = .returned (.bool true) ∧ Only NoBlk w w' := by
  have hn : l.length ≤ 9223372036854775807 := hn0
  have hcell : ∀ k, k < l.length → ∃ b o, A = some ⟨b, o, none⟩ ∧ b < w.heap.size ∧ w.cell? ⟨b, o + k * 3, none⟩ = some (.int .i64 (actAt l k).k) ∧ w.cell? ⟨b, o + k * 3 + 1, none⟩ = some (.int .i64 (actAt l k).i) ∧ w.cell? ⟨b, o + k * 3 + 2, none⟩ = some (.int .i64 (actAt l k).n) := by
    intro k hk
    have hfl := flat_len enc3 3 enc3_len l
    obtain ⟨b, o, hA, _, hb, hc⟩ := hr.at_ (j := k * 3) (by omega)
    have h1 := acts_at l k hk
    exact ⟨b, o, hA, hb, by rw [hc _ (by omega)]; exact h1.1, by rw [Nat.add_assoc, hc _ (by omega)]; exact h1.2.1, by rw [Nat.add_assoc, hc _ (by omega)]; exact h1.2.2⟩
  obtain ⟨i, hi⟩ : ∃ i, i = id % 8 := ⟨_, rfl⟩
  have hir0 : 0 ≤ i := by omega
  have hir1 : i < 8 := by omega
  have hlen : (newPurse 8 7).l.length = 8 := by show (zeros _).length = 8; rw [zeros_len]; rfl
  have ok0 := newPurse_ok 8 7
  have hgive : ((newPurse 8 7).give i).has i = 7 := by
    unfold PurseM.give
    rw [PurseM.put_has hir0 (by rw [hlen]; omega)]
    unfold PurseM.has
    rw [if_pos ⟨hir0, by rw [hlen]; omega⟩]
    show min (nth (zeros _) _ + _) _ = _
    unfold zeros
    rw [nth_rep]
    decide
  obtain ⟨n, hnl⟩ : ∃ n, n = l.length := ⟨_, rfl⟩
  rw [← hnl] at hcell hn ⊢
  have Hi := hide hi
  have Hc := hide hcell
  have Hgive := hide hgive
  clear hi hcell hlen hgive hr hnl hn0
  go_enter Try.func4, Try.ntmps4
  go_wp2_with fail
  refine (New_c 8 7 _).mono ?_
  rintro e w1 ⟨rfl, hp, ho, hs⟩
  go_wp2_with fail
  rw [← Hi.out]
  refine (Give_c i hp ok0).mono ?_
  rintro e w2 ⟨he, hp2, ho2⟩
  rw [Hgive.out] at he
  subst he
  have hst : ApartAt w w2 i := ⟨_, hp2, ok0.give i, Hgive.out, ho.fresh ho2 (fun j _ hj => Or.inr (by omega))⟩
  clear hp2 ho2
  go_wp2_with fail
  go_loopw [7] (fun x wr => ∃ k : Nat, k ≤ n ∧ k ≤ 20 ∧ x = .int .i64 k ∧ ApartAt w wr i) (fun x _ => n - (intOf x).toNat)
  case atStart => exact ⟨0, Nat.zero_le _, by omega, rfl, hst⟩
  case round =>
    obtain ⟨k, hk, hk20, rfl, hat⟩ := hrel
    obtain ⟨m, hpm, okm, hm7, ho0⟩ := hat
    have HM7 := hide hm7
    clear hm7
    by_cases hlt : k < n
    · by_cases hlt20 : k < 20
      · obtain ⟨b, o, rfl, hb, g0, g1, g2⟩ := Hc.out k hlt
        replace g0 := (ho0.cell (p := ⟨b, o + k * 3, none⟩) hb (fun h => h)).trans g0
        replace g1 := (ho0.cell (p := ⟨b, o + k * 3 + 1, none⟩) hb (fun h => h)).trans g1
        replace g2 := (ho0.cell (p := ⟨b, o + k * 3 + 2, none⟩) hb (fun h => h)).trans g2
        obtain ⟨⟨ak, ai, an⟩, hact⟩ : ∃ a, a = actAt l k := ⟨_, rfl⟩
        rw [← hact] at g0 g1 g2
        simp only at g0 g1 g2
        clear hact Hc
        by_cases hai : ai = i
        · have hb1 : (ai == i) = true := by simp [hai]
          clear hai
          go_wp2_with fail
          go_roundw
          case rel => exact ⟨k + 1, by omega, by omega, by go_num, m, (hpm.only ((Only.refl NoBlk _).alloc _) (fun h => h) (fun h => h)), okm, HM7.out, ho0.alloc _⟩
          case measure => simp [intOf]; omega
        · have hb1 : (ai == i) = false := by simp [hai]
          have hni : i ≠ ai := fun h => hai h.symm
          have Hni := hide hni
          clear hai hni
          have hpa : ∀ o : Obj, PurseAt (wr.alloc o) (w.heap.size + 1) w.heap.size m := fun o => hpm.only ((Only.refl NoBlk _).alloc o) (fun h => h) (fun h => h)
          have Hpa := hide hpa
          clear hpa hpm
          by_cases hk0 : ak = 0
          · have hkb : (ak == 0) = true := by simp [hk0]
            clear hk0
            go_wp2_with fail
            refine (Give_c ai (Hpa.out _) okm).mono ?_
            rintro e w3 ⟨rfl, hp3, ho3⟩
            go_wp2_with fail
            refine (Has_c i hp3 (okm.give ai)).mono ?_
            rintro e w4 ⟨he, rfl⟩
            rw [PurseM.give_far Hni.out, HM7.out] at he
            subst he
            have hst2 : ApartAt w w3 i := ⟨_, hp3, okm.give ai, by rw [PurseM.give_far Hni.out]; exact HM7.out, (ho0.alloc _).fresh ho3 (fun j _ hj => Or.inr (by omega))⟩
            clear hp3 ho3
            go_wp2
            go_roundw
            case rel => exact ⟨k + 1, by omega, by omega, by go_num, hst2⟩
            case measure => simp [intOf]; omega
          · have hkb : (ak == 0) = false := by simp [hk0]
            clear hk0
            by_cases hk1 : ak = 1
            · have hkb1 : (ak == 1) = true := by simp [hk1]
              clear hk1
              go_wp2_with fail
              refine (Pay_c ai an (Hpa.out _) okm).mono ?_
              rintro e w3 ⟨rfl, hp3, ho3⟩
              go_wp2_with fail
              refine (Has_c i hp3 (okm.pay ai an)).mono ?_
              rintro e w4 ⟨he, rfl⟩
              rw [PurseM.pay_far Hni.out, HM7.out] at he
              subst he
              have hst2 : ApartAt w w3 i := ⟨_, hp3, okm.pay ai an, by rw [PurseM.pay_far Hni.out]; exact HM7.out, (ho0.alloc _).fresh ho3 (fun j _ hj => Or.inr (by omega))⟩
              clear hp3 ho3
              go_wp2
              go_roundw
              case rel => exact ⟨k + 1, by omega, by omega, by go_num, hst2⟩
              case measure => simp [intOf]; omega
            · have hkb1 : (ak == 1) = false := by simp [hk1]
              clear hk1
              by_cases hk2 : ak = 2
              · have hkb2 : (ak == 2) = true := by simp [hk2]
                clear hk2
                go_wp2_with fail
                refine (Clear_c ai (Hpa.out _) okm).mono ?_
                rintro e w3 ⟨rfl, hp3, ho3⟩
                go_wp2_with fail
                refine (Has_c i hp3 (okm.clear ai)).mono ?_
                rintro e w4 ⟨he, rfl⟩
                rw [PurseM.clear_far Hni.out, HM7.out] at he
                subst he
                have hst2 : ApartAt w w3 i := ⟨_, hp3, okm.clear ai, by rw [PurseM.clear_far Hni.out]; exact HM7.out, (ho0.alloc _).fresh ho3 (fun j _ hj => Or.inr (by omega))⟩
                clear hp3 ho3
                go_wp2
                go_roundw
                case rel => exact ⟨k + 1, by omega, by omega, by go_num, hst2⟩
                case measure => simp [intOf]; omega
              · have hkb2 : (ak == 2) = false := by simp [hk2]
                clear hk2
                go_wp2_with fail
                refine (Has_c i (Hpa.out _) okm).mono ?_
                rintro e w4 ⟨he, rfl⟩
                rw [HM7.out] at he
                subst he
                go_wp2
                go_roundw
                case rel => exact ⟨k + 1, by omega, by omega, by go_num, m, Hpa.out _, okm, HM7.out, ho0.alloc _⟩
                case measure => simp [intOf]; omega
      · have hd : decide ((k : Int) < 20) = false := by simp; omega
        go_wp2_with fail
        refine (purse_lives _).mono ?_
        rintro e w3 ⟨rfl, ho3⟩
        go_wp2_with fail
        go_ret
        exact ⟨rfl, ho0.trans ho3⟩
    · have hd : decide ((k : Int) < n) = false := by simp; omega
      go_wp2_with fail
      refine (purse_lives _).mono ?_
      rintro e w3 ⟨rfl, ho3⟩
      go_wp2_with fail
      go_ret
      exact ⟨rfl, ho0.trans ho3⟩
end Go.Proofs.Ytmkbhejbbhikcaa
