/- The law LoadReads, walked. Conditions: those of each theorem. -/
import Derived.Test.YtaioaojfdngfdaaGreatDoorPl49
import Derived.BigRegion
set_option linter.unusedVariables false
set_option linter.unusedSimpArgs false
namespace Go.Proofs.YtaioaojfdngfdaaGreatDoor
open Go.RowKit
set_option maxRecDepth 100000 in
set_option maxHeartbeats 25600000 in
theorem LoadReads_walk (s0 name : ByteArray) (w : World) (hs : s0.size ≤ 9223372036854775807) (hv : Vars w) : Calls Tryz.prog 8 #[.string s0, .string name] w fun e w' => e = .returned (.bool true) ∧ Only NoBlk w w' := by
 have HV := hide hv
 have HCt := hide (cut02_c s0 900 w hs)
 clear hv hs
 go_enter Tryz.func8, Tryz.ntmps8
 go_wp2_with fail
 refine HCt.out.mono ?_
 rintro e wz ⟨⟨t, rfl, ht⟩, hwz⟩
 obtain rfl := hwz.symm
 have HP1 := hide (fun (X : World) (k : Only NoBlk w X) => Load_c t X (by omega) (HV.out.only k))
 have HP2 := hide (fun (X : World) => refLoad_c t X (by omega))
 rw [← load_same] at HP2
 have HTm := hide (load_tame t.data.toList)
 have HLn := hide (load_len t.data.toList)
 obtain ⟨P, hP⟩ : ∃ P, P = loadM t.data.toList := ⟨_, rfl⟩
 rw [← hP] at HP1 HP2 HTm HLn
 obtain ⟨C, E⟩ := P
 simp only at HP1 HP2 HTm HLn
 clear hP ht HCt
 go_wp2_with fail
 refine (HP1.out _ (Only.refl _ _)).mono ?_
 rintro e w1 ⟨⟨A1, c1, S1, rfl, hS1, hr1, ho1⟩, k1⟩
 have HS1 := hide hS1
 have HR1 := hide (show Rd w1 NoBlk A1 (flat encScr S1) from hr1.mono (fun _ h => h.elim))
 have HO1 := hide (show ∀ v ∈ S1, OpsRd w1 NoBlk v.A v.L from fun v hv => (ho1 v hv).monoP (fun _ h => h.elim))
 have K1 := hide k1
 have hn1 : S1.length ≤ 64 := by have := HLn.out; rw [← hS1, List.length_map] at this; exact this
 clear hS1 hr1 ho1 k1
 go_wp2_with fail
 refine (HP2.out w1).mono ?_
 rintro e w2 ⟨⟨A2, c2, S2, rfl, hS2, hr2, ho2⟩, k2⟩
 have HS2 := hide hS2
 have HR2 := hide (show Rd w2 NoBlk A2 (flat encScr S2) from hr2.mono (fun _ h => h.elim))
 have HO2 := hide (show ∀ v ∈ S2, OpsRd w2 NoBlk v.A v.L from fun v hv => (ho2 v hv).monoP (fun _ h => h.elim))
 have K2 := hide (K1.out.trans k2)
 have HR12 := hide (HR1.out.only k2 (fun _ h => h))
 have HO12 := hide (fun v hv => (HO1.out v hv).only k2 (fun _ h => h))
 have hn2 : S2.length ≤ 64 := by have := HLn.out; rw [← hS2, List.length_map] at this; exact this
 have HSm := hide (same17_c A1 A2 c1 c2 S1 S2 w2 HR12.out HR2.out HO12.out HO2.out (HS1.out.trans hS2.symm) (fun v hv => HTm.out _ (by rw [← HS1.out]; exact List.mem_map.2 ⟨v, hv, rfl⟩)) (by omega))
 clear hS2 hr2 ho2 k2 HR1 HO1 HP1 HP2
 have q1 : (E != E) = false := by simp
 go_wp2_with fail
 refine HSm.out.mono ?_
 rintro e w3 ⟨rfl, k3⟩
 have K3 := hide (K2.out.trans k3)
 have HR13 := hide (HR12.out.only k3 (fun _ h => h))
 have HR23 := hide (HR2.out.only k3 (fun _ h => h))
 clear k3 HR12 HR2 HO12 HO2 HSm
 have Hc := hide (fun k hk => scr_cells HR23.out k hk)
 have HNx := hide (right_next S2)
 obtain ⟨n, hn⟩ : ∃ n, n = S2.length := ⟨_, rfl⟩
 have HRt := hide (show rightM C = rightM ((S2.take n).map (·.m)) by rw [hn, List.take_length, HS2.out])
 have Hn := hide hn
 rw [← hn] at hn2 HNx Hc ⊢
 clear hn
 go_wp2_with fail
 go_loopw [9, 10] (fun q i wr => ∃ k N : Nat, k ≤ n ∧ N ≤ k ∧ i = .int .i64 k ∧ q = .int .i64 N ∧ Hid (N = rightM ((S2.take k).map (·.m))) ∧ Hid (wr = w3)) (fun _ i _ => n - (intOf i).toNat)
 case atStart => exact ⟨0, 0, Nat.zero_le _, Nat.le_refl _, rfl, rfl, hide (by rfl), hide rfl⟩
 case round =>
  obtain ⟨k, N, hk, hNk, rfl, rfl, HN, HW⟩ := hrel
  rw [HW.out]
  have w1' : IntKind.i64.wrap ((k : Int) + 1) = (k : Int) + 1 := IntWalk.i64_in _ (by omega)
  have w2' : IntKind.i64.wrap ((N : Int) + 1) = (N : Int) + 1 := IntWalk.i64_in _ (by omega)
  by_cases hlt2 : k < n
  case pos =>
   obtain ⟨b2, o, rfl, hb2, _, hc⟩ := Hc.out k hlt2
   have hnx := HNx.out k hlt2
   obtain ⟨v, hv⟩ : ∃ v, v = scrAt S2 k := ⟨_, rfl⟩
   rw [← hv] at hc hnx
   have g7 : w3.cell? ⟨b2, o + k * 8 + 7, none⟩ = some (.int .i64 v.err) := hc 7 (by omega)
   have d1 : decide ((k : Int) < (n : Int)) = true := by simp; exact hlt2
   have d2 : decide (k < n) = true := by simp; exact hlt2
   have j1 : (0 : Int) ≤ (k : Int) := by omega
   have j2 : (k : Int) < (n : Int) := by omega
   by_cases he : v.err = 0
   ·have HN2 := hide (show N + 1 = rightM ((S2.take (k + 1)).map (·.m)) by rw [hnx, ← HN.out, if_pos he])
    have q2 : (v.err == 0) = true := by rw [he]; rfl
    clear hc hv hnx he hlt2
    go_wp2_with fail
    go_roundw
    case rel => exact ⟨k + 1, N + 1, by omega, by omega, by go_num, by go_num, HN2, hide trivial⟩
    case measure => simp [intOf] <;> omega
   ·have HN2 := hide (show N = rightM ((S2.take (k + 1)).map (·.m)) by rw [hnx, ← HN.out, if_neg he]; rfl)
    have q2 : (v.err == 0) = false := beq_eq_false_iff_ne.2 he
    clear hc hv hnx he hlt2
    go_wp2_with fail
    go_roundw
    case rel => exact ⟨k + 1, N, by omega, by omega, by go_num, rfl, HN2, hide trivial⟩
    case measure => simp [intOf] <;> omega
  case neg =>
   obtain rfl : n = k := by omega
   have d1 : decide ((n : Int) < (n : Int)) = false := by simp
   have d2 : decide (n < n) = false := by simp
   have HI := hide (show rightM C = N by rw [HN.out, HRt.out])
   have HFd := hide (Find_c NoBlk A1 c1 S1 name w3 HR13.out (by omega))
   have HRf := hide (fun (X : World) (q : Only NoBlk w3 X) => refFind17_c NoBlk A2 c2 S2 name X (HR23.out.only q (fun _ h => h)) (by rw [← Hn.out]; omega))
   have HRg := hide (fun (X : World) (q : Only NoBlk w3 X) => Right_c NoBlk A1 c1 S1 X (HR13.out.only q (fun _ h => h)) (by omega))
   have HLv := hide (fun (X : World) (q : Only NoBlk w X) => lives17_c X (HV.out.only q))
   rw [HS1.out] at HFd HRg
   rw [HS2.out, ← Hn.out] at HRf
   rw [HI.out] at HRg
   have hid : idxN name C = if hasM C name = true then (findM C name : Int) else -1 := rfl
   rw [hid] at HRf
   obtain ⟨B, hB⟩ : ∃ B, B = hasM C name := ⟨_, rfl⟩
   obtain ⟨f, hf⟩ : ∃ f, f = findM C name := ⟨_, rfl⟩
   rw [← hB, ← hf] at HFd HRf
   clear hid hB hf HI HN HRt Hc HNx HW HLn HTm HS1 HS2 HR13 HR23 Hn hlt2 hk hNk
   have e1 : ((N : Int) == (N : Int)) = true := by simp
   have e2 : ((f : Int) == (f : Int)) = true := by simp
   have e3 : decide ((0 : Int) ≤ (f : Int)) = true := by simp
   cases B with
   | true =>
    rw [if_pos rfl] at HFd
    simp only [if_true] at HRf
    go_wp2_with fail
    refine HFd.out.mono ?_
    rintro e w4 ⟨rfl, b4⟩
    have J4 := hide (Only.of_below b4 NoBlk)
    clear b4
    go_wp2_with fail
    refine (HRf.out w4 J4.out).mono ?_
    rintro e w5 ⟨rfl, hw5⟩
    obtain rfl := hw5.symm
    go_wp2_with fail
    refine (HRg.out w4 J4.out).mono ?_
    rintro e w6 ⟨rfl, b6⟩
    have J6 := hide (K3.out.trans (J4.out.trans (Only.of_below b6 NoBlk)))
    clear b6
    go_wp2_with fail
    refine (HLv.out w6 J6.out).mono ?_
    rintro e w7 ⟨rfl, k7⟩
    have J7 := hide (J6.out.trans k7)
    clear k7
    go_wp2_with fail
    go_ret
    exact ⟨rfl, J7.out⟩
   | false =>
    simp only [Bool.false_eq_true, if_false] at HFd HRf
    go_wp2_with fail
    refine HFd.out.mono ?_
    rintro e w4 ⟨rfl, b4⟩
    have J4 := hide (Only.of_below b4 NoBlk)
    clear b4
    go_wp2_with fail
    refine (HRf.out w4 J4.out).mono ?_
    rintro e w5 ⟨rfl, hw5⟩
    obtain rfl := hw5.symm
    go_wp2_with fail
    refine (HRg.out w4 J4.out).mono ?_
    rintro e w6 ⟨rfl, b6⟩
    have J6 := hide (K3.out.trans (J4.out.trans (Only.of_below b6 NoBlk)))
    clear b6
    go_wp2_with fail
    refine (HLv.out w6 J6.out).mono ?_
    rintro e w7 ⟨rfl, k7⟩
    have J7 := hide (J6.out.trans k7)
    clear k7
    go_wp2_with fail
    go_ret
    exact ⟨rfl, J7.out⟩
end Go.Proofs.YtaioaojfdngfdaaGreatDoor
