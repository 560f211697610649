/- The law ParseLong, walked. Conditions: those of each theorem. -/
import Derived.Test.YtaioaojfdngfdaaGreatDoorReg
import Derived.Test.YtaioaojfdngfdaaGreatDoorLongP
import Derived.BigRegion
namespace Go.Proofs.YtaioaojfdngfdaaGreatDoor
open Go.RowKit
set_option linter.unusedVariables false
set_option linter.unusedSimpArgs false
theorem grow_txt {A : ByteArray} {P l : List UInt8} {q : Nat} (h : A = bs (P ++ times q l)) (x : ByteArray) (hx : x = bs l) : A ++ x = bs (P ++ times (q + 1) l) := by
  subst h hx
  rw [bs_append, times_succ, List.append_assoc]
theorem txt_sz {A : ByteArray} {P l : List UInt8} {q : Nat} (h : A = bs (P ++ times q l)) : A.size = P.length + q * l.length := by
  subst h
  show (P ++ times q l).length = _
  rw [List.length_append, times_len]
theorem long_q (k : Nat) (hk : k < 24) :
    (10 < k → ((parseM (opsT k)).2.2 = 4 ∧ (parseM (opsT k)).2.1.1 = 202 ∧ (parseM (opsT k)).2.1.2 = 1) ∧ ((parseM (sendT k)).2.2 = 4 ∧ (parseM (sendT k)).2.1.1 = 2 ∧ (parseM (sendT k)).2.1.2 = 6) ∧ ((parseM (patT k)).2.2 = 4 ∧ (parseM (patT k)).2.1.1 = 4 ∧ (parseM (patT k)).2.1.2 = 4)) ∧
    (¬ 10 < k → (parseM (opsT k)).2.2 = 0 ∧ (parseM (sendT k)).2.2 = 0 ∧ ((parseM (patT k)).2.2 = 0 ↔ k % 2 = 0)) ∧ (k < 9 → (parseM (armsT k)).2.2 = 0) ∧ (¬ k < 9 → (parseM (armsT k)).2.2 = 4 ∧ (parseM (armsT k)).2.1.1 = 12 ∧ (parseM (armsT k)).2.1.2 = 1) := by
  obtain ⟨h1, h2, h3, h4⟩ := long_all k hk
  unfold opsB at h1
  unfold sendB at h2
  unfold patB at h3
  unfold armsB at h4
  refine ⟨fun h => ?_, fun h => ?_, fun h => ?_, fun h => ?_⟩
  · rw [if_pos h] at h1 h2 h3
    simp only [isB, Bool.and_eq_true, decide_eq_true_eq] at h1 h2 h3
    exact ⟨h1, h2, h3⟩
  · rw [if_neg h] at h1 h2 h3
    simp only [okB, decide_eq_true_eq, beq_iff_eq, decide_eq_decide] at h1 h2 h3
    exact ⟨h1, h2, h3⟩
  · rw [if_pos h] at h4
    simpa [okB] using h4
  · rw [if_neg h] at h4
    simpa [isB] using h4
theorem pl_c (T : List UInt8) (w : World) (hs : T.length ≤ 900000) (hv : Vars w) : Calls Tryz.prog 13 #[.string (bs T)] w fun e w' => (∃ nm dl jm oA n oc, e = .returned (.tuple #[.agg #[.string nm, .int .i64 dl, .int .i64 jm, .slice oA n oc], .agg #[.int .i64 (parseM T).2.1.1, .int .i64 (parseM T).2.1.2], .int .i64 (parseM T).2.2])) ∧ Only NoBlk w w' :=
  (pparse_c (bs T) w hs hv.len hv.err hv.lt).mono fun e w' ⟨⟨oA, oc, L, he, _, _⟩, k⟩ => ⟨⟨_, _, _, _, _, _, he⟩, k⟩
set_option maxRecDepth 100000 in
set_option maxHeartbeats 25600000 in
theorem ParseLong_walk (n : Int) (hn : 0 ≤ n ∧ n ≤ 255) (w : World) (hv : Vars w) : Calls Tryz.prog 5 #[.int .u8 n] w fun e w' => e = .returned (.bool true) ∧ Only NoBlk w w' := by
  have HV := hide hv
  obtain ⟨k, hk⟩ : ∃ k : Nat, (k : Int) = n % 24 := ⟨(n % 24).toNat, by omega⟩
  have hk24 : k < 24 := by omega
  have hm : n.tmod 24 = (k : Int) := by rw [Int.tmod_eq_emod_of_nonneg hn.1]; omega
  have HHd := hide (fun (X : World) => head14_c X)
  have wk0 : IntKind.u8.wrap (k : Int) = (k : Int) := IntWalk.u8_in _ (by omega)
  have wk1 : IntKind.i64.wrap (k : Int) = (k : Int) := IntWalk.i64_in _ (by omega)
  have wk2 : IntKind.i64.wrap (190 + (k : Int)) = 190 + (k : Int) := IntWalk.i64_in _ (by omega)
  have wk3 : IntKind.i64.wrap (246 + (k : Int)) = 246 + (k : Int) := IntWalk.i64_in _ (by omega)
  have wk4 : IntKind.i64.wrap (54 + (k : Int)) = 54 + (k : Int) := IntWalk.i64_in _ (by omega)
  clear hv hk
  go_enter Tryz.func5, Tryz.ntmps5
  go_wp2_with fail
  refine (HHd.out _).mono ?_
  rintro e V1 ⟨rfl, hv1⟩
  obtain rfl := hv1.symm
  go_wp2_with fail
  refine (HHd.out _).mono ?_
  rintro e V1 ⟨rfl, hv1⟩
  obtain rfl := hv1.symm
  go_wp2_with fail
  go_loopw [4, 8] (fun v i wr => ∃ (q : Nat) (A : ByteArray), q ≤ 190 + k ∧ v = .string A ∧ i = .int .i64 q ∧ Hid (A = bs (hd14 ++ times q doneL)) ∧ Hid (wr = w)) (fun _ i _ => (190 + k) - (intOf i).toNat)
  case atStart => exact ⟨0, _, by omega, rfl, rfl, hide (by rfl), hide rfl⟩
  case round =>
    obtain ⟨q, A, hq, rfl, rfl, HA, HW⟩ := hrel
    have hsz := txt_sz HA.out
    have z0 : A.size + (⟨#[100, 111, 110, 101, 10]⟩ : ByteArray).size ≤ 9223372036854775807 := by
      have : (⟨#[100, 111, 110, 101, 10]⟩ : ByteArray).size = 5 := rfl
      rw [this, hsz]; simp [hd14, lb14, doneL, onL]; omega
    have w1 : IntKind.i64.wrap ((q : Int) + 1) = (q : Int) + 1 := IntWalk.i64_in _ (by omega)
    clear hsz
    by_cases hlt : q < 190 + k
    case pos =>
      have e1 : decide ((q : Int) < 190 + (k : Int)) = true := by simp; omega
      have e2 : (q : Int) < 190 + (k : Int) := by omega
      have HA2 := hide (grow_txt HA.out (⟨#[100, 111, 110, 101, 10]⟩ : ByteArray) rfl)
      go_wp2_with fail
      go_roundw
      case rel => exact ⟨q + 1, _, by omega, rfl, by go_num, HA2, HW⟩
      case measure => simp [intOf]; omega
    case neg =>
      have e1 : decide ((q : Int) < 190 + (k : Int)) = false := by simp; omega
      have e2 : ¬ (q : Int) < 190 + (k : Int) := by omega
      obtain rfl : q = 190 + k := by omega
      rw [HW.out]
      obtain ⟨T1, hT1⟩ : ∃ T, T = A := ⟨_, rfl⟩
      rw [← hT1] at HA ⊢
      have HT1 := hide HA.out
      clear hT1 HA HW z0 w1
      go_wp2_with fail
      clear e1 e2 hlt
      go_loopw [5, 9] (fun v i wr => ∃ (q : Nat) (A : ByteArray), q ≤ k ∧ v = .string A ∧ i = .int .i64 q ∧ Hid (A = bs ((hd14 ++ lb14) ++ times q onL)) ∧ Hid (wr = w)) (fun _ i _ => (k) - (intOf i).toNat)
      case atStart => exact ⟨0, _, by omega, rfl, rfl, hide (by rfl), hide rfl⟩
      case round =>
        obtain ⟨q, A, hq, rfl, rfl, HA, HW⟩ := hrel
        have hsz := txt_sz HA.out
        have z0 : A.size + (⟨#[111, 110, 32, 34, 120, 34, 32, 97, 10]⟩ : ByteArray).size ≤ 9223372036854775807 := by
          have : (⟨#[111, 110, 32, 34, 120, 34, 32, 97, 10]⟩ : ByteArray).size = 9 := rfl
          rw [this, hsz]; simp [hd14, lb14, doneL, onL]; omega
        have w1 : IntKind.i64.wrap ((q : Int) + 1) = (q : Int) + 1 := IntWalk.i64_in _ (by omega)
        clear hsz
        by_cases hlt : q < k
        case pos =>
          have e1 : decide ((q : Int) < (k : Int)) = true := by simp; omega
          have e2 : (q : Int) < (k : Int) := by omega
          have HA2 := hide (grow_txt HA.out (⟨#[111, 110, 32, 34, 120, 34, 32, 97, 10]⟩ : ByteArray) rfl)
          go_wp2_with fail
          go_roundw
          case rel => exact ⟨q + 1, _, by omega, rfl, by go_num, HA2, HW⟩
          case measure => simp [intOf]; omega
        case neg =>
          have e1 : decide ((q : Int) < (k : Int)) = false := by simp; omega
          have e2 : ¬ (q : Int) < (k : Int) := by omega
          obtain rfl : k = q := by omega
          rw [HW.out]
          obtain ⟨T2, hT2⟩ : ∃ T, T = A := ⟨_, rfl⟩
          rw [← hT2] at HA ⊢
          have HT2 := hide HA.out
          clear hT2 HA HW z0 w1
          go_wp2_with fail
          clear e1 e2 hlt
          go_loopw [6, 10] (fun v i wr => ∃ (q : Nat) (A : ByteArray), q ≤ 246 + k ∧ v = .string A ∧ i = .int .i64 q ∧ Hid (A = bs (([] : List UInt8) ++ times q [120])) ∧ Hid (wr = w)) (fun _ i _ => (246 + k) - (intOf i).toNat)
          case atStart => exact ⟨0, _, by omega, rfl, rfl, hide (by rfl), hide rfl⟩
          case round =>
            obtain ⟨q, A, hq, rfl, rfl, HA, HW⟩ := hrel
            have hsz := txt_sz HA.out
            have z0 : A.size + (⟨#[120]⟩ : ByteArray).size ≤ 9223372036854775807 := by
              have : (⟨#[120]⟩ : ByteArray).size = 1 := rfl
              rw [this, hsz]; simp [hd14, lb14, doneL, onL]; omega
            have w1 : IntKind.i64.wrap ((q : Int) + 1) = (q : Int) + 1 := IntWalk.i64_in _ (by omega)
            clear hsz
            by_cases hlt : q < 246 + k
            case pos =>
              have e1 : decide ((q : Int) < 246 + (k : Int)) = true := by simp; omega
              have e2 : (q : Int) < 246 + (k : Int) := by omega
              have HA2 := hide (grow_txt HA.out (⟨#[120]⟩ : ByteArray) rfl)
              go_wp2_with fail
              go_roundw
              case rel => exact ⟨q + 1, _, by omega, rfl, by go_num, HA2, HW⟩
              case measure => simp [intOf]; omega
            case neg =>
              have e1 : decide ((q : Int) < 246 + (k : Int)) = false := by simp; omega
              have e2 : ¬ (q : Int) < 246 + (k : Int) := by omega
              obtain rfl : q = 246 + k := by omega
              rw [HW.out]
              obtain ⟨T3, hT3⟩ : ∃ T, T = A := ⟨_, rfl⟩
              rw [← hT3] at HA ⊢
              have HT3 := hide HA.out
              clear hT3 HA HW z0 w1
              go_wp2_with fail
              clear e1 e2 hlt
              go_loopw [7, 11] (fun v i wr => ∃ (q : Nat) (A : ByteArray), q ≤ 54 + k ∧ v = .string A ∧ i = .int .i64 q ∧ Hid (A = bs (([] : List UInt8) ++ times q [37, 120])) ∧ Hid (wr = w)) (fun _ i _ => (54 + k) - (intOf i).toNat)
              case atStart => exact ⟨0, _, by omega, rfl, rfl, hide (by rfl), hide rfl⟩
              case round =>
                obtain ⟨q, A, hq, rfl, rfl, HA, HW⟩ := hrel
                have hsz := txt_sz HA.out
                have z0 : A.size + (⟨#[37, 120]⟩ : ByteArray).size ≤ 9223372036854775807 := by
                  have : (⟨#[37, 120]⟩ : ByteArray).size = 2 := rfl
                  rw [this, hsz]; simp [hd14, lb14, doneL, onL]; omega
                have w1 : IntKind.i64.wrap ((q : Int) + 1) = (q : Int) + 1 := IntWalk.i64_in _ (by omega)
                clear hsz
                by_cases hlt : q < 54 + k
                case pos =>
                  have e1 : decide ((q : Int) < 54 + (k : Int)) = true := by simp; omega
                  have e2 : (q : Int) < 54 + (k : Int) := by omega
                  have HA2 := hide (grow_txt HA.out (⟨#[37, 120]⟩ : ByteArray) rfl)
                  go_wp2_with fail
                  go_roundw
                  case rel => exact ⟨q + 1, _, by omega, rfl, by go_num, HA2, HW⟩
                  case measure => simp [intOf]; omega
                case neg =>
                  have e1 : decide ((q : Int) < 54 + (k : Int)) = false := by simp; omega
                  have e2 : ¬ (q : Int) < 54 + (k : Int) := by omega
                  obtain rfl : q = 54 + k := by omega
                  rw [HW.out]
                  obtain ⟨T4, hT4⟩ : ∃ T, T = A := ⟨_, rfl⟩
                  rw [← hT4] at HA ⊢
                  have HT4 := hide HA.out
                  clear hT4 HA HW z0 w1
                  have HQ1 := hide (fun (X : World) (kx : Only NoBlk w X) => pl_c (opsT k) X (by rw [opsT_len]; omega) (HV.out.only kx))
                  have HQ2 := hide (fun (X : World) (kx : Only NoBlk w X) => pl_c (armsT k) X (by rw [armsT_len]; omega) (HV.out.only kx))
                  have HQ3 := hide (fun (X : World) (kx : Only NoBlk w X) => pl_c (sendT k) X (by rw [sendT_len]; omega) (HV.out.only kx))
                  have HQ4 := hide (fun (X : World) (kx : Only NoBlk w X) => pl_c (patT k) X (by rw [patT_len]; omega) (HV.out.only kx))
                  have HLg := hide (long_q k hk24)
                  obtain ⟨x1, hx⟩ : ∃ v, v = (parseM (opsT k)).2.1.1 := ⟨_, rfl⟩
                  obtain ⟨y1, hy⟩ : ∃ v, v = (parseM (opsT k)).2.1.2 := ⟨_, rfl⟩
                  obtain ⟨E1, hE⟩ : ∃ v, v = (parseM (opsT k)).2.2 := ⟨_, rfl⟩
                  rw [← hx, ← hy, ← hE] at HQ1 HLg
                  clear hx hy hE
                  obtain ⟨x2, hx⟩ : ∃ v, v = (parseM (armsT k)).2.1.1 := ⟨_, rfl⟩
                  obtain ⟨y2, hy⟩ : ∃ v, v = (parseM (armsT k)).2.1.2 := ⟨_, rfl⟩
                  obtain ⟨E2, hE⟩ : ∃ v, v = (parseM (armsT k)).2.2 := ⟨_, rfl⟩
                  rw [← hx, ← hy, ← hE] at HQ2 HLg
                  clear hx hy hE
                  obtain ⟨x3, hx⟩ : ∃ v, v = (parseM (sendT k)).2.1.1 := ⟨_, rfl⟩
                  obtain ⟨y3, hy⟩ : ∃ v, v = (parseM (sendT k)).2.1.2 := ⟨_, rfl⟩
                  obtain ⟨E3, hE⟩ : ∃ v, v = (parseM (sendT k)).2.2 := ⟨_, rfl⟩
                  rw [← hx, ← hy, ← hE] at HQ3 HLg
                  clear hx hy hE
                  obtain ⟨x4, hx⟩ : ∃ v, v = (parseM (patT k)).2.1.1 := ⟨_, rfl⟩
                  obtain ⟨y4, hy⟩ : ∃ v, v = (parseM (patT k)).2.1.2 := ⟨_, rfl⟩
                  obtain ⟨E4, hE⟩ : ∃ v, v = (parseM (patT k)).2.2 := ⟨_, rfl⟩
                  rw [← hx, ← hy, ← hE] at HQ4 HLg
                  clear hx hy hE
                  rw [show T1 = bs (opsT k) from HT1.out, show T2 = bs (armsT k) from HT2.out]
                  clear HT1 HT2
                  have HK0 := hide (Only.refl NoBlk w)
                  go_wp2_with fail
                  refine (HQ1.out w HK0.out).mono ?_
                  rintro e w1 ⟨⟨nm1, dl1, jm1, A1, n1, c1, rfl⟩, k1⟩
                  have HW1 := hide (HK0.out.trans k1)
                  have HD1 := hide k1
                  clear k1
                  go_wp2_with fail
                  generalize hX : World.alloc (World.alloc w1 _) _ = X1
                  obtain ⟨g1, hg⟩ : ∃ g, g = w1.heap.size := ⟨_, rfl⟩
                  have HB1 := hide (show Blk X1 (g1 + 1) 27 #[.int .i64 x1, .int .i64 y1] by rw [← hX, hg]; exact Blk.new' (by simp))
                  have HJ1 := hide (show Only NoBlk w1 X1 by rw [← hX]; exact ((Only.refl _ _).alloc _).alloc _)
                  have HK1 := hide (HW1.out.trans HJ1.out)
                  rw [← hg]
                  clear hX hg
                  refine (HQ2.out X1 HK1.out).mono ?_
                  rintro e w2 ⟨⟨nm2, dl2, jm2, A2, n2, c2, rfl⟩, k2⟩
                  have HW2 := hide (HK1.out.trans k2)
                  have HD2 := hide k2
                  clear k2
                  go_wp2_with fail
                  generalize hX : World.alloc (World.alloc w2 _) _ = X2
                  obtain ⟨g2, hg⟩ : ∃ g, g = w2.heap.size := ⟨_, rfl⟩
                  have HB2 := hide (show Blk X2 (g2 + 1) 27 #[.int .i64 x2, .int .i64 y2] by rw [← hX, hg]; exact Blk.new' (by simp))
                  have HJ2 := hide (show Only NoBlk w2 X2 by rw [← hX]; exact ((Only.refl _ _).alloc _).alloc _)
                  have HK2 := hide (HW2.out.trans HJ2.out)
                  rw [← hg]
                  clear hX hg
                  replace HB1 := hide ((HB1.out.only HD2.out (fun h => h)).only HJ2.out (fun h => h))
                  refine (HHd.out _).mono ?_
                  rintro e V1 ⟨rfl, hv1⟩
                  obtain rfl := hv1.symm
                  have t0 : (⟨#[115, 101, 110, 100, 32, 34]⟩ : ByteArray).size = 6 := rfl
                  have t1 : (⟨#[34]⟩ : ByteArray).size = 1 := rfl
                  have hT3 : T3.size = 246 + k := by rw [txt_sz HT3.out]; simp
                  have z0 : ((⟨#[115, 99, 114, 105, 112, 116, 32, 97, 32, 110, 101, 118, 101, 114, 32, 51, 10]⟩ : ByteArray) ++ (⟨#[115, 101, 110, 100, 32, 34]⟩ : ByteArray)).size + T3.size ≤ 9223372036854775807 := by rw [ByteArray.size_append, t0, hT3]; show 17 + 6 + _ ≤ _; omega
                  have z1 : ((⟨#[115, 99, 114, 105, 112, 116, 32, 97, 32, 110, 101, 118, 101, 114, 32, 51, 10]⟩ : ByteArray) ++ (⟨#[115, 101, 110, 100, 32, 34]⟩ : ByteArray) ++ T3).size + (⟨#[34]⟩ : ByteArray).size ≤ 9223372036854775807 := by rw [ByteArray.size_append, ByteArray.size_append, t0, t1, hT3]; show 17 + 6 + _ + 1 ≤ _; omega
                  have HF3 := hide (show (⟨#[115, 99, 114, 105, 112, 116, 32, 97, 32, 110, 101, 118, 101, 114, 32, 51, 10]⟩ : ByteArray) ++ (⟨#[115, 101, 110, 100, 32, 34]⟩ : ByteArray) ++ T3 ++ (⟨#[34]⟩ : ByteArray) = bs (sendT k) by
                    rw [HT3.out]
                    show bs hd14 ++ bs [115, 101, 110, 100, 32, 34] ++ bs ([] ++ times (246 + k) [120]) ++ bs [34] = _
                    rw [bs_append, bs_append, bs_append]
                    rfl)
                  go_wp2_with fail
                  rw [HF3.out]
                  clear z0 z1 t0 t1 hT3 HF3 HT3
                  refine (HQ3.out X2 HK2.out).mono ?_
                  rintro e w3 ⟨⟨nm3, dl3, jm3, A3, n3, c3, rfl⟩, k3⟩
                  have HW3 := hide (HK2.out.trans k3)
                  have HD3 := hide k3
                  clear k3
                  go_upto_region 22 with fail
                  generalize hX : World.alloc (World.alloc w3 _) _ = X3
                  obtain ⟨g3, hg⟩ : ∃ g, g = w3.heap.size := ⟨_, rfl⟩
                  have HB3 := hide (show Blk X3 (g3 + 1) 27 #[.int .i64 x3, .int .i64 y3] by rw [← hX, hg]; exact Blk.new' (by simp))
                  have HJ3 := hide (show Only NoBlk w3 X3 by rw [← hX]; exact ((Only.refl _ _).alloc _).alloc _)
                  have HK3 := hide (HW3.out.trans HJ3.out)
                  rw [← hg]
                  clear hX hg
                  replace HB1 := hide ((HB1.out.only HD3.out (fun h => h)).only HJ3.out (fun h => h))
                  replace HB2 := hide ((HB2.out.only HD3.out (fun h => h)).only HJ3.out (fun h => h))
                  have q0 : (⟨#[108, 97, 98, 101, 108, 32, 97, 10, 101, 120, 112, 101, 99, 116, 32, 53, 10, 111, 110, 32, 34]⟩ : ByteArray).size = 21 := rfl
                  have q1 : (⟨#[34, 32, 97]⟩ : ByteArray).size = 3 := rfl
                  have hT4 : T4.size = (54 + k) * 2 := by rw [txt_sz HT4.out]; simp
                  have hX4 : (T4.extract 0 (54 + k)).size = 54 + k := by rw [ByteArray.size_extract, hT4]; omega
                  have z0 : ((⟨#[115, 99, 114, 105, 112, 116, 32, 97, 32, 110, 101, 118, 101, 114, 32, 51, 10]⟩ : ByteArray) ++ (⟨#[108, 97, 98, 101, 108, 32, 97, 10, 101, 120, 112, 101, 99, 116, 32, 53, 10, 111, 110, 32, 34]⟩ : ByteArray)).size + (T4.extract 0 (54 + k)).size ≤ 9223372036854775807 := by rw [ByteArray.size_append, q0, hX4]; show 17 + 21 + _ ≤ _; omega
                  have z1 : ((⟨#[115, 99, 114, 105, 112, 116, 32, 97, 32, 110, 101, 118, 101, 114, 32, 51, 10]⟩ : ByteArray) ++ (⟨#[108, 97, 98, 101, 108, 32, 97, 10, 101, 120, 112, 101, 99, 116, 32, 53, 10, 111, 110, 32, 34]⟩ : ByteArray) ++ T4.extract 0 (54 + k)).size + (⟨#[34, 32, 97]⟩ : ByteArray).size ≤ 9223372036854775807 := by rw [ByteArray.size_append, ByteArray.size_append, q0, q1, hX4]; show 17 + 21 + _ + 3 ≤ _; omega
                  have j1 : (0 : Int) ≤ 54 + (k : Int) := by omega
                  have j2 : 54 + (k : Int) ≤ (T4.size : Int) := by rw [hT4]; omega
                  have tn : (54 + (k : Int)).toNat = 54 + k := by omega
                  have hmin : min (54 + k) T4.size = 54 + k := by rw [hT4]; omega
                  have n0 : (9223372036854775807 < 38 + (54 + k)) = False := by simp; omega
                  have n1 : (9223372036854775807 < 38 + (54 + k) + 3) = False := by simp; omega
                  have HF4 := hide (show (⟨#[115, 99, 114, 105, 112, 116, 32, 97, 32, 110, 101, 118, 101, 114, 32, 51, 10]⟩ : ByteArray) ++ (⟨#[108, 97, 98, 101, 108, 32, 97, 10, 101, 120, 112, 101, 99, 116, 32, 53, 10, 111, 110, 32, 34]⟩ : ByteArray) ++ T4.extract 0 (54 + k) ++ (⟨#[34, 32, 97]⟩ : ByteArray) = bs (patT k) by
                    rw [HT4.out, sub_bs']
                    show bs hd14 ++ bs (lb14 ++ [111, 110, 32, 34]) ++ bs (((times (54 + k) [37, 120]).drop 0).take (54 + k - 0)) ++ bs [34, 32, 97] = _
                    rw [bs_append, bs_append, bs_append]
                    rfl)
                  clear hT4 hX4 HT4 q0 q1
                  go_cut [21, 22, 23] from 83 to 95 (fun v21 v22 v23 wx => ∃ g4, v22 = .pointer (some ⟨g4, 0, none⟩) ∧ v23 = .int .i64 E4 ∧ Hid (Blk wx g4 27 #[.int .i64 x4, .int .i64 y4]) ∧ Hid (Only NoBlk X3 wx))
                  case first =>
                    refine wp_region_held (S := fun _ => True) (by kernel_rfl) ?_
                    change wpAnyH _ _ _ _ _ _ _ _ X3.drew
                    obtain ⟨V0, hV0⟩ : ∃ V0, V0 = X3.drew := ⟨_, rfl⟩
                    have O0 := hide (show Only NoBlk X3 V0 by rw [hV0]; exact (Only.refl _ X3).drew)
                    have hHeld : True := trivial
                    rw [← hV0]
                    simp only [List.size_toArray, List.length_cons, List.length_nil, Nat.zero_add, Nat.reduceAdd]
                    clear hV0
                    refine tk 2 ?_ rfl ?_ ?_
                    rotate_left
                    · (intro w9 hS9; (try simp only [ga]); go_simp <;> rfl)
                    try simp only [Act.put, gp]
                    refine tk 3 ?_ rfl ?_ ?_
                    rotate_left
                    · (intro w9 hS9; (try simp only [ga]); go_simp <;> rfl)
                    try simp only [Act.put, gp]
                    refine tk 4 ?_ rfl ?_ ?_
                    rotate_left
                    · (intro w9 hS9; (try simp only [ga]); go_simp <;> rfl)
                    try simp only [Act.put, gp]
                    refine tk 5 ?_ rfl ?_ ?_
                    rotate_left
                    · (intro w9 hS9; (try simp only [ga]); go_simp <;> rfl)
                    try simp only [Act.put, gp]
                    refine wpAnyH_ready (rs := [0, 13, 14]) (by kernel_rfl) (by simp) ?_
                    refine AllReadyH.cons rfl (fun K hK => ?_) (AllReadyH.cons rfl (fun K hK => ?_) (AllReadyH.cons rfl (fun K hK => ?_) AllReadyH.nil))
                    · try simp only [ga]
                      try go_simp
                      refine (HHd.out _).mono ?_
                      rintro e Vh ⟨rfl, hvh⟩
                      obtain rfl := hvh.symm
                      have O1 := O0
                      refine hK.out _ _ trivial (fun hHeld => ?_)
                      clear hK K
                      try simp only [Act.put, gp]
                      refine tk 1 ?_ rfl ?_ ?_
                      rotate_left
                      · (intro w9 hS9; (try simp only [ga]); go_simp <;> rfl)
                      try simp only [Act.put, gp]
                      refine tk 6 ?_ rfl ?_ ?_
                      rotate_left
                      · (intro w9 hS9; (try simp only [ga]); go_simp <;> rfl)
                      try simp only [Act.put, gp]
                      refine tk 7 ?_ rfl ?_ ?_
                      rotate_left
                      · (intro w9 hS9; (try simp only [ga]); go_simp <;> rfl)
                      try simp only [Act.put, gp]
                      rw [HF4.out]
                      refine wpAnyH_ready (rs := [8, 13, 14]) (by kernel_rfl) (by simp) ?_
                      refine AllReadyH.cons rfl (fun K hK => ?_) (AllReadyH.cons rfl (fun K hK => ?_) (AllReadyH.cons rfl (fun K hK => ?_) AllReadyH.nil))
                      · try simp only [ga]
                        try go_simp
                        refine (HQ4.out _ (HK3.out.trans O1.out)).mono ?_
                        rintro e w4 ⟨⟨nm4, dl4, jm4, A4, n4, c4, rfl⟩, k4⟩
                        have O2 := hide (O1.out.trans k4)
                        clear k4
                        refine hK.out _ _ trivial (fun hHeld => ?_)
                        clear hK K
                        try simp only [Act.put, gp]
                        refine tk 9 ?_ rfl ?_ ?_
                        rotate_left
                        · (intro w9 hS9; (try simp only [ga]); go_simp <;> rfl)
                        try simp only [Act.put, gp]
                        refine tk 10 ?_ rfl ?_ ?_
                        rotate_left
                        · (intro w9 hS9; (try simp only [ga]); go_simp <;> rfl)
                        try simp only [Act.put, gp]
                        refine tk 11 ?_ rfl ?_ ?_
                        rotate_left
                        · (intro w9 hS9; (try simp only [ga]); go_simp <;> rfl)
                        try simp only [Act.put, gp]
                        refine tk 12 ?_ rfl ?_ ?_
                        rotate_left
                        · (intro w9 hS9; (try simp only [ga]); go_simp <;> rfl)
                        try simp only [Act.put, gp]
                        refine wpAnyH_ready (rs := [13, 14]) (by kernel_rfl) (by simp) ?_
                        refine AllReadyH.cons rfl (fun K hK => ?_) (AllReadyH.cons rfl (fun K hK => ?_) AllReadyH.nil)
                        · try simp only [ga]
                          try go_simp
                          generalize hX : World.alloc _ _ = X3_
                          have k : Only NoBlk _ X3_ := hX ▸ (Only.refl NoBlk _).alloc _
                          have HN : Blk X3_ _ 25 #[.string ⟨#[]⟩, .int .i64 0, .int .i64 0, .slice none 0 0] := hX ▸ Blk.new _ _ _
                          have hl := O2.out.size
                          clear hX
                          generalize hg : Array.size (World.heap _) = g3 at HN  hl ⊢
                          have O3 := hide (O2.out.trans k)
                          have Ha3 := hide HN
                          have La3 := hide hl
                          clear k HN hg hl
                          refine hK.out _ _ trivial (fun hHeld => ?_)
                          clear hK K
                          try simp only [Act.put, gp]
                          refine wpAnyH_ready (rs := [14]) (by kernel_rfl) (by simp) ?_
                          refine AllReadyH.cons rfl (fun K hK => ?_) AllReadyH.nil
                          try simp only [ga]
                          try go_simp
                          generalize hX : World.alloc _ _ = X4_
                          have k : Only NoBlk _ X4_ := hX ▸ (Only.refl NoBlk _).alloc _
                          have HN : Blk X4_ _ 27 #[.int .i64 0, .int .i64 0] := hX ▸ Blk.new _ _ _
                          have nab := Nat.ne_of_lt Ha3.out.lt
                          have hl := O3.out.size
                          clear hX
                          generalize hg : Array.size (World.heap _) = g4 at HN nab hl ⊢
                          have Ha4 := hide (Ha3.out.only k (fun h => h))
                          have La4 := hide La3.out
                          have O4 := hide (O3.out.trans k)
                          have Hb4 := hide HN
                          have Lb4 := hide hl
                          have N4 : Hid (g4 ≠ g3) := hide nab.symm
                          clear k HN hg hl nab
                          refine hK.out _ _ trivial (fun hHeld => ?_)
                          clear hK K
                          try simp only [Act.put, gp]
                          obtain ⟨⟨a0, a1, a2, a3⟩, fa0, fa1, fa2, fa3⟩ := Ha4.out.four
                          refine rdy 15 rfl (fun K hK => ?_)
                          try simp only [ga]
                          try go_simp
                          have Hb' := hide ((((Hb4.out.far (p := ⟨g3, 0, none⟩) (N4.out) (.string nm4)).far (p := ⟨g3, 1, none⟩) (N4.out) (.int .i64 dl4)).far (p := ⟨g3, 2, none⟩) (N4.out) (.int .i64 jm4)).far (p := ⟨g3, 3, none⟩) (N4.out) (.slice A4 n4 c4))
                          have O' := hide ((((O4.out.setCell (p := ⟨g3, 0, none⟩) (Or.inr La4.out) (.string nm4)).setCell (p := ⟨g3, 1, none⟩) (Or.inr La4.out) (.int .i64 dl4)).setCell (p := ⟨g3, 2, none⟩) (Or.inr La4.out) (.int .i64 jm4)).setCell (p := ⟨g3, 3, none⟩) (Or.inr La4.out) (.slice A4 n4 c4))
                          generalize hY : World.setCell (World.setCell (World.setCell (World.setCell _ _ _) _ _) _ _) _ _ = Y
                          rw [hY] at Hb' O'
                          clear hY a0 a1 a2 a3 fa0 fa1 fa2 fa3
                          refine hK.out _ _ trivial (fun hHeld => ?_)
                          clear hK K
                          try simp only [Act.put, gp]
                          obtain ⟨b0, b1⟩ := Hb'.out.two
                          have fb0 := Hb'.out.frozen 0
                          have fb1 := Hb'.out.frozen 1
                          refine rdy 16 rfl (fun K hK => ?_)
                          try simp only [ga]
                          try go_simp
                          have Hb2 := hide ((Hb'.out.set_ 0 (.int .i64 x4)).set_ 1 (.int .i64 y4))
                          have O2 := hide ((O'.out.setCell (p := ⟨g4, 0, none⟩) (Or.inr Lb4.out) (.int .i64 x4)).setCell (p := ⟨g4, 1, none⟩) (Or.inr Lb4.out) (.int .i64 y4))
                          generalize hZ : World.setCell (World.setCell Y _ _) _ _ = Z
                          rw [hZ] at Hb2 O2
                          clear hZ b0 b1 fb0 fb1
                          refine hK.out _ _ trivial (fun hHeld => ?_)
                          clear hK K
                          try simp only [Act.put, gp]
                          refine tk 17 ?_ rfl ?_ ?_
                          rotate_left
                          · (intro w9 hS9; (try simp only [ga]); go_simp <;> rfl)
                          try simp only [Act.put, gp]
                          refine wpAnyH_done (by kernel_rfl) ?_ _
                          try simp only [Exit.then]
                          go_wp2_with fail
                          go_meet
                          exact ⟨g4, rfl, rfl, Hb2, O2⟩
                        · try simp only [ga]
                          try go_simp
                          generalize hX : World.alloc _ _ = X5_
                          have k : Only NoBlk _ X5_ := hX ▸ (Only.refl NoBlk _).alloc _
                          have HN : Blk X5_ _ 27 #[.int .i64 0, .int .i64 0] := hX ▸ Blk.new _ _ _
                          have hl := O2.out.size
                          clear hX
                          generalize hg : Array.size (World.heap _) = g5 at HN  hl ⊢
                          have O5 := hide (O2.out.trans k)
                          have Hb5 := hide HN
                          have Lb5 := hide hl
                          clear k HN hg hl
                          refine hK.out _ _ trivial (fun hHeld => ?_)
                          clear hK K
                          try simp only [Act.put, gp]
                          refine wpAnyH_ready (rs := [13]) (by kernel_rfl) (by simp) ?_
                          refine AllReadyH.cons rfl (fun K hK => ?_) AllReadyH.nil
                          try simp only [ga]
                          try go_simp
                          generalize hX : World.alloc _ _ = X6_
                          have k : Only NoBlk _ X6_ := hX ▸ (Only.refl NoBlk _).alloc _
                          have HN : Blk X6_ _ 25 #[.string ⟨#[]⟩, .int .i64 0, .int .i64 0, .slice none 0 0] := hX ▸ Blk.new _ _ _
                          have nba := (Nat.ne_of_lt Hb5.out.lt).symm
                          have hl := O5.out.size
                          clear hX
                          generalize hg : Array.size (World.heap _) = g6 at HN nba hl ⊢
                          have Hb6 := hide (Hb5.out.only k (fun h => h))
                          have Lb6 := hide Lb5.out
                          have O6 := hide (O5.out.trans k)
                          have Ha6 := hide HN
                          have La6 := hide hl
                          have N6 : Hid (g5 ≠ g6) := hide nba.symm
                          clear k HN hg hl nba
                          refine hK.out _ _ trivial (fun hHeld => ?_)
                          clear hK K
                          try simp only [Act.put, gp]
                          obtain ⟨⟨a0, a1, a2, a3⟩, fa0, fa1, fa2, fa3⟩ := Ha6.out.four
                          refine rdy 15 rfl (fun K hK => ?_)
                          try simp only [ga]
                          try go_simp
                          have Hb' := hide ((((Hb6.out.far (p := ⟨g6, 0, none⟩) (N6.out) (.string nm4)).far (p := ⟨g6, 1, none⟩) (N6.out) (.int .i64 dl4)).far (p := ⟨g6, 2, none⟩) (N6.out) (.int .i64 jm4)).far (p := ⟨g6, 3, none⟩) (N6.out) (.slice A4 n4 c4))
                          have O' := hide ((((O6.out.setCell (p := ⟨g6, 0, none⟩) (Or.inr La6.out) (.string nm4)).setCell (p := ⟨g6, 1, none⟩) (Or.inr La6.out) (.int .i64 dl4)).setCell (p := ⟨g6, 2, none⟩) (Or.inr La6.out) (.int .i64 jm4)).setCell (p := ⟨g6, 3, none⟩) (Or.inr La6.out) (.slice A4 n4 c4))
                          generalize hY : World.setCell (World.setCell (World.setCell (World.setCell _ _ _) _ _) _ _) _ _ = Y
                          rw [hY] at Hb' O'
                          clear hY a0 a1 a2 a3 fa0 fa1 fa2 fa3
                          refine hK.out _ _ trivial (fun hHeld => ?_)
                          clear hK K
                          try simp only [Act.put, gp]
                          obtain ⟨b0, b1⟩ := Hb'.out.two
                          have fb0 := Hb'.out.frozen 0
                          have fb1 := Hb'.out.frozen 1
                          refine rdy 16 rfl (fun K hK => ?_)
                          try simp only [ga]
                          try go_simp
                          have Hb2 := hide ((Hb'.out.set_ 0 (.int .i64 x4)).set_ 1 (.int .i64 y4))
                          have O2 := hide ((O'.out.setCell (p := ⟨g5, 0, none⟩) (Or.inr Lb6.out) (.int .i64 x4)).setCell (p := ⟨g5, 1, none⟩) (Or.inr Lb6.out) (.int .i64 y4))
                          generalize hZ : World.setCell (World.setCell Y _ _) _ _ = Z
                          rw [hZ] at Hb2 O2
                          clear hZ b0 b1 fb0 fb1
                          refine hK.out _ _ trivial (fun hHeld => ?_)
                          clear hK K
                          try simp only [Act.put, gp]
                          refine tk 17 ?_ rfl ?_ ?_
                          rotate_left
                          · (intro w9 hS9; (try simp only [ga]); go_simp <;> rfl)
                          try simp only [Act.put, gp]
                          refine wpAnyH_done (by kernel_rfl) ?_ _
                          try simp only [Exit.then]
                          go_wp2_with fail
                          go_meet
                          exact ⟨g5, rfl, rfl, Hb2, O2⟩
                      · try simp only [ga]
                        try go_simp
                        generalize hX : World.alloc _ _ = X7_
                        have k : Only NoBlk _ X7_ := hX ▸ (Only.refl NoBlk _).alloc _
                        have HN : Blk X7_ _ 25 #[.string ⟨#[]⟩, .int .i64 0, .int .i64 0, .slice none 0 0] := hX ▸ Blk.new _ _ _
                        have hl := O1.out.size
                        clear hX
                        generalize hg : Array.size (World.heap _) = g7 at HN  hl ⊢
                        have O7 := hide (O1.out.trans k)
                        have Ha7 := hide HN
                        have La7 := hide hl
                        clear k HN hg hl
                        refine hK.out _ _ trivial (fun hHeld => ?_)
                        clear hK K
                        try simp only [Act.put, gp]
                        refine wpAnyH_ready (rs := [8, 14]) (by kernel_rfl) (by simp) ?_
                        refine AllReadyH.cons rfl (fun K hK => ?_) (AllReadyH.cons rfl (fun K hK => ?_) AllReadyH.nil)
                        · try simp only [ga]
                          try go_simp
                          refine (HQ4.out _ (HK3.out.trans O7.out)).mono ?_
                          rintro e w4 ⟨⟨nm4, dl4, jm4, A4, n4, c4, rfl⟩, k4⟩
                          have Ha8 := hide (Ha7.out.only k4 (fun h => h))
                          have La8 := hide La7.out
                          have O8 := hide (O7.out.trans k4)
                          clear k4
                          refine hK.out _ _ trivial (fun hHeld => ?_)
                          clear hK K
                          try simp only [Act.put, gp]
                          refine tk 9 ?_ rfl ?_ ?_
                          rotate_left
                          · (intro w9 hS9; (try simp only [ga]); go_simp <;> rfl)
                          try simp only [Act.put, gp]
                          refine tk 10 ?_ rfl ?_ ?_
                          rotate_left
                          · (intro w9 hS9; (try simp only [ga]); go_simp <;> rfl)
                          try simp only [Act.put, gp]
                          refine tk 11 ?_ rfl ?_ ?_
                          rotate_left
                          · (intro w9 hS9; (try simp only [ga]); go_simp <;> rfl)
                          try simp only [Act.put, gp]
                          refine tk 12 ?_ rfl ?_ ?_
                          rotate_left
                          · (intro w9 hS9; (try simp only [ga]); go_simp <;> rfl)
                          try simp only [Act.put, gp]
                          refine wpAnyH_ready (rs := [14]) (by kernel_rfl) (by simp) ?_
                          refine AllReadyH.cons rfl (fun K hK => ?_) AllReadyH.nil
                          try simp only [ga]
                          try go_simp
                          generalize hX : World.alloc _ _ = X9_
                          have k : Only NoBlk _ X9_ := hX ▸ (Only.refl NoBlk _).alloc _
                          have HN : Blk X9_ _ 27 #[.int .i64 0, .int .i64 0] := hX ▸ Blk.new _ _ _
                          have nab := Nat.ne_of_lt Ha8.out.lt
                          have hl := O8.out.size
                          clear hX
                          generalize hg : Array.size (World.heap _) = g9 at HN nab hl ⊢
                          have Ha9 := hide (Ha8.out.only k (fun h => h))
                          have La9 := hide La8.out
                          have O9 := hide (O8.out.trans k)
                          have Hb9 := hide HN
                          have Lb9 := hide hl
                          have N9 : Hid (g9 ≠ g7) := hide nab.symm
                          clear k HN hg hl nab
                          refine hK.out _ _ trivial (fun hHeld => ?_)
                          clear hK K
                          try simp only [Act.put, gp]
                          obtain ⟨⟨a0, a1, a2, a3⟩, fa0, fa1, fa2, fa3⟩ := Ha9.out.four
                          refine rdy 15 rfl (fun K hK => ?_)
                          try simp only [ga]
                          try go_simp
                          have Hb' := hide ((((Hb9.out.far (p := ⟨g7, 0, none⟩) (N9.out) (.string nm4)).far (p := ⟨g7, 1, none⟩) (N9.out) (.int .i64 dl4)).far (p := ⟨g7, 2, none⟩) (N9.out) (.int .i64 jm4)).far (p := ⟨g7, 3, none⟩) (N9.out) (.slice A4 n4 c4))
                          have O' := hide ((((O9.out.setCell (p := ⟨g7, 0, none⟩) (Or.inr La9.out) (.string nm4)).setCell (p := ⟨g7, 1, none⟩) (Or.inr La9.out) (.int .i64 dl4)).setCell (p := ⟨g7, 2, none⟩) (Or.inr La9.out) (.int .i64 jm4)).setCell (p := ⟨g7, 3, none⟩) (Or.inr La9.out) (.slice A4 n4 c4))
                          generalize hY : World.setCell (World.setCell (World.setCell (World.setCell _ _ _) _ _) _ _) _ _ = Y
                          rw [hY] at Hb' O'
                          clear hY a0 a1 a2 a3 fa0 fa1 fa2 fa3
                          refine hK.out _ _ trivial (fun hHeld => ?_)
                          clear hK K
                          try simp only [Act.put, gp]
                          obtain ⟨b0, b1⟩ := Hb'.out.two
                          have fb0 := Hb'.out.frozen 0
                          have fb1 := Hb'.out.frozen 1
                          refine rdy 16 rfl (fun K hK => ?_)
                          try simp only [ga]
                          try go_simp
                          have Hb2 := hide ((Hb'.out.set_ 0 (.int .i64 x4)).set_ 1 (.int .i64 y4))
                          have O2 := hide ((O'.out.setCell (p := ⟨g9, 0, none⟩) (Or.inr Lb9.out) (.int .i64 x4)).setCell (p := ⟨g9, 1, none⟩) (Or.inr Lb9.out) (.int .i64 y4))
                          generalize hZ : World.setCell (World.setCell Y _ _) _ _ = Z
                          rw [hZ] at Hb2 O2
                          clear hZ b0 b1 fb0 fb1
                          refine hK.out _ _ trivial (fun hHeld => ?_)
                          clear hK K
                          try simp only [Act.put, gp]
                          refine tk 17 ?_ rfl ?_ ?_
                          rotate_left
                          · (intro w9 hS9; (try simp only [ga]); go_simp <;> rfl)
                          try simp only [Act.put, gp]
                          refine wpAnyH_done (by kernel_rfl) ?_ _
                          try simp only [Exit.then]
                          go_wp2_with fail
                          go_meet
                          exact ⟨g9, rfl, rfl, Hb2, O2⟩
                        · try simp only [ga]
                          try go_simp
                          generalize hX : World.alloc _ _ = X10_
                          have k : Only NoBlk _ X10_ := hX ▸ (Only.refl NoBlk _).alloc _
                          have HN : Blk X10_ _ 27 #[.int .i64 0, .int .i64 0] := hX ▸ Blk.new _ _ _
                          have nab := Nat.ne_of_lt Ha7.out.lt
                          have hl := O7.out.size
                          clear hX
                          generalize hg : Array.size (World.heap _) = g10 at HN nab hl ⊢
                          have Ha10 := hide (Ha7.out.only k (fun h => h))
                          have La10 := hide La7.out
                          have O10 := hide (O7.out.trans k)
                          have Hb10 := hide HN
                          have Lb10 := hide hl
                          have N10 : Hid (g10 ≠ g7) := hide nab.symm
                          clear k HN hg hl nab
                          refine hK.out _ _ trivial (fun hHeld => ?_)
                          clear hK K
                          try simp only [Act.put, gp]
                          refine wpAnyH_ready (rs := [8]) (by kernel_rfl) (by simp) ?_
                          refine AllReadyH.cons rfl (fun K hK => ?_) AllReadyH.nil
                          try simp only [ga]
                          try go_simp
                          refine (HQ4.out _ (HK3.out.trans O10.out)).mono ?_
                          rintro e w4 ⟨⟨nm4, dl4, jm4, A4, n4, c4, rfl⟩, k4⟩
                          have Ha11 := hide (Ha10.out.only k4 (fun h => h))
                          have La11 := hide La10.out
                          have Hb11 := hide (Hb10.out.only k4 (fun h => h))
                          have Lb11 := hide Lb10.out
                          have N11 := hide N10.out
                          have O11 := hide (O10.out.trans k4)
                          clear k4
                          refine hK.out _ _ trivial (fun hHeld => ?_)
                          clear hK K
                          try simp only [Act.put, gp]
                          refine tk 9 ?_ rfl ?_ ?_
                          rotate_left
                          · (intro w9 hS9; (try simp only [ga]); go_simp <;> rfl)
                          try simp only [Act.put, gp]
                          refine tk 10 ?_ rfl ?_ ?_
                          rotate_left
                          · (intro w9 hS9; (try simp only [ga]); go_simp <;> rfl)
                          try simp only [Act.put, gp]
                          refine tk 11 ?_ rfl ?_ ?_
                          rotate_left
                          · (intro w9 hS9; (try simp only [ga]); go_simp <;> rfl)
                          try simp only [Act.put, gp]
                          refine tk 12 ?_ rfl ?_ ?_
                          rotate_left
                          · (intro w9 hS9; (try simp only [ga]); go_simp <;> rfl)
                          try simp only [Act.put, gp]
                          obtain ⟨⟨a0, a1, a2, a3⟩, fa0, fa1, fa2, fa3⟩ := Ha11.out.four
                          refine rdy 15 rfl (fun K hK => ?_)
                          try simp only [ga]
                          try go_simp
                          have Hb' := hide ((((Hb11.out.far (p := ⟨g7, 0, none⟩) (N11.out) (.string nm4)).far (p := ⟨g7, 1, none⟩) (N11.out) (.int .i64 dl4)).far (p := ⟨g7, 2, none⟩) (N11.out) (.int .i64 jm4)).far (p := ⟨g7, 3, none⟩) (N11.out) (.slice A4 n4 c4))
                          have O' := hide ((((O11.out.setCell (p := ⟨g7, 0, none⟩) (Or.inr La11.out) (.string nm4)).setCell (p := ⟨g7, 1, none⟩) (Or.inr La11.out) (.int .i64 dl4)).setCell (p := ⟨g7, 2, none⟩) (Or.inr La11.out) (.int .i64 jm4)).setCell (p := ⟨g7, 3, none⟩) (Or.inr La11.out) (.slice A4 n4 c4))
                          generalize hY : World.setCell (World.setCell (World.setCell (World.setCell _ _ _) _ _) _ _) _ _ = Y
                          rw [hY] at Hb' O'
                          clear hY a0 a1 a2 a3 fa0 fa1 fa2 fa3
                          refine hK.out _ _ trivial (fun hHeld => ?_)
                          clear hK K
                          try simp only [Act.put, gp]
                          obtain ⟨b0, b1⟩ := Hb'.out.two
                          have fb0 := Hb'.out.frozen 0
                          have fb1 := Hb'.out.frozen 1
                          refine rdy 16 rfl (fun K hK => ?_)
                          try simp only [ga]
                          try go_simp
                          have Hb2 := hide ((Hb'.out.set_ 0 (.int .i64 x4)).set_ 1 (.int .i64 y4))
                          have O2 := hide ((O'.out.setCell (p := ⟨g10, 0, none⟩) (Or.inr Lb11.out) (.int .i64 x4)).setCell (p := ⟨g10, 1, none⟩) (Or.inr Lb11.out) (.int .i64 y4))
                          generalize hZ : World.setCell (World.setCell Y _ _) _ _ = Z
                          rw [hZ] at Hb2 O2
                          clear hZ b0 b1 fb0 fb1
                          refine hK.out _ _ trivial (fun hHeld => ?_)
                          clear hK K
                          try simp only [Act.put, gp]
                          refine tk 17 ?_ rfl ?_ ?_
                          rotate_left
                          · (intro w9 hS9; (try simp only [ga]); go_simp <;> rfl)
                          try simp only [Act.put, gp]
                          refine wpAnyH_done (by kernel_rfl) ?_ _
                          try simp only [Exit.then]
                          go_wp2_with fail
                          go_meet
                          exact ⟨g10, rfl, rfl, Hb2, O2⟩
                      · try simp only [ga]
                        try go_simp
                        generalize hX : World.alloc _ _ = X12_
                        have k : Only NoBlk _ X12_ := hX ▸ (Only.refl NoBlk _).alloc _
                        have HN : Blk X12_ _ 27 #[.int .i64 0, .int .i64 0] := hX ▸ Blk.new _ _ _
                        have hl := O1.out.size
                        clear hX
                        generalize hg : Array.size (World.heap _) = g12 at HN  hl ⊢
                        have O12 := hide (O1.out.trans k)
                        have Hb12 := hide HN
                        have Lb12 := hide hl
                        clear k HN hg hl
                        refine hK.out _ _ trivial (fun hHeld => ?_)
                        clear hK K
                        try simp only [Act.put, gp]
                        refine wpAnyH_ready (rs := [8, 13]) (by kernel_rfl) (by simp) ?_
                        refine AllReadyH.cons rfl (fun K hK => ?_) (AllReadyH.cons rfl (fun K hK => ?_) AllReadyH.nil)
                        · try simp only [ga]
                          try go_simp
                          refine (HQ4.out _ (HK3.out.trans O12.out)).mono ?_
                          rintro e w4 ⟨⟨nm4, dl4, jm4, A4, n4, c4, rfl⟩, k4⟩
                          have Hb13 := hide (Hb12.out.only k4 (fun h => h))
                          have Lb13 := hide Lb12.out
                          have O13 := hide (O12.out.trans k4)
                          clear k4
                          refine hK.out _ _ trivial (fun hHeld => ?_)
                          clear hK K
                          try simp only [Act.put, gp]
                          refine tk 9 ?_ rfl ?_ ?_
                          rotate_left
                          · (intro w9 hS9; (try simp only [ga]); go_simp <;> rfl)
                          try simp only [Act.put, gp]
                          refine tk 10 ?_ rfl ?_ ?_
                          rotate_left
                          · (intro w9 hS9; (try simp only [ga]); go_simp <;> rfl)
                          try simp only [Act.put, gp]
                          refine tk 11 ?_ rfl ?_ ?_
                          rotate_left
                          · (intro w9 hS9; (try simp only [ga]); go_simp <;> rfl)
                          try simp only [Act.put, gp]
                          refine tk 12 ?_ rfl ?_ ?_
                          rotate_left
                          · (intro w9 hS9; (try simp only [ga]); go_simp <;> rfl)
                          try simp only [Act.put, gp]
                          refine wpAnyH_ready (rs := [13]) (by kernel_rfl) (by simp) ?_
                          refine AllReadyH.cons rfl (fun K hK => ?_) AllReadyH.nil
                          try simp only [ga]
                          try go_simp
                          generalize hX : World.alloc _ _ = X14_
                          have k : Only NoBlk _ X14_ := hX ▸ (Only.refl NoBlk _).alloc _
                          have HN : Blk X14_ _ 25 #[.string ⟨#[]⟩, .int .i64 0, .int .i64 0, .slice none 0 0] := hX ▸ Blk.new _ _ _
                          have nba := (Nat.ne_of_lt Hb13.out.lt).symm
                          have hl := O13.out.size
                          clear hX
                          generalize hg : Array.size (World.heap _) = g14 at HN nba hl ⊢
                          have Hb14 := hide (Hb13.out.only k (fun h => h))
                          have Lb14 := hide Lb13.out
                          have O14 := hide (O13.out.trans k)
                          have Ha14 := hide HN
                          have La14 := hide hl
                          have N14 : Hid (g12 ≠ g14) := hide nba.symm
                          clear k HN hg hl nba
                          refine hK.out _ _ trivial (fun hHeld => ?_)
                          clear hK K
                          try simp only [Act.put, gp]
                          obtain ⟨⟨a0, a1, a2, a3⟩, fa0, fa1, fa2, fa3⟩ := Ha14.out.four
                          refine rdy 15 rfl (fun K hK => ?_)
                          try simp only [ga]
                          try go_simp
                          have Hb' := hide ((((Hb14.out.far (p := ⟨g14, 0, none⟩) (N14.out) (.string nm4)).far (p := ⟨g14, 1, none⟩) (N14.out) (.int .i64 dl4)).far (p := ⟨g14, 2, none⟩) (N14.out) (.int .i64 jm4)).far (p := ⟨g14, 3, none⟩) (N14.out) (.slice A4 n4 c4))
                          have O' := hide ((((O14.out.setCell (p := ⟨g14, 0, none⟩) (Or.inr La14.out) (.string nm4)).setCell (p := ⟨g14, 1, none⟩) (Or.inr La14.out) (.int .i64 dl4)).setCell (p := ⟨g14, 2, none⟩) (Or.inr La14.out) (.int .i64 jm4)).setCell (p := ⟨g14, 3, none⟩) (Or.inr La14.out) (.slice A4 n4 c4))
                          generalize hY : World.setCell (World.setCell (World.setCell (World.setCell _ _ _) _ _) _ _) _ _ = Y
                          rw [hY] at Hb' O'
                          clear hY a0 a1 a2 a3 fa0 fa1 fa2 fa3
                          refine hK.out _ _ trivial (fun hHeld => ?_)
                          clear hK K
                          try simp only [Act.put, gp]
                          obtain ⟨b0, b1⟩ := Hb'.out.two
                          have fb0 := Hb'.out.frozen 0
                          have fb1 := Hb'.out.frozen 1
                          refine rdy 16 rfl (fun K hK => ?_)
                          try simp only [ga]
                          try go_simp
                          have Hb2 := hide ((Hb'.out.set_ 0 (.int .i64 x4)).set_ 1 (.int .i64 y4))
                          have O2 := hide ((O'.out.setCell (p := ⟨g12, 0, none⟩) (Or.inr Lb14.out) (.int .i64 x4)).setCell (p := ⟨g12, 1, none⟩) (Or.inr Lb14.out) (.int .i64 y4))
                          generalize hZ : World.setCell (World.setCell Y _ _) _ _ = Z
                          rw [hZ] at Hb2 O2
                          clear hZ b0 b1 fb0 fb1
                          refine hK.out _ _ trivial (fun hHeld => ?_)
                          clear hK K
                          try simp only [Act.put, gp]
                          refine tk 17 ?_ rfl ?_ ?_
                          rotate_left
                          · (intro w9 hS9; (try simp only [ga]); go_simp <;> rfl)
                          try simp only [Act.put, gp]
                          refine wpAnyH_done (by kernel_rfl) ?_ _
                          try simp only [Exit.then]
                          go_wp2_with fail
                          go_meet
                          exact ⟨g12, rfl, rfl, Hb2, O2⟩
                        · try simp only [ga]
                          try go_simp
                          generalize hX : World.alloc _ _ = X15_
                          have k : Only NoBlk _ X15_ := hX ▸ (Only.refl NoBlk _).alloc _
                          have HN : Blk X15_ _ 25 #[.string ⟨#[]⟩, .int .i64 0, .int .i64 0, .slice none 0 0] := hX ▸ Blk.new _ _ _
                          have nba := (Nat.ne_of_lt Hb12.out.lt).symm
                          have hl := O12.out.size
                          clear hX
                          generalize hg : Array.size (World.heap _) = g15 at HN nba hl ⊢
                          have Hb15 := hide (Hb12.out.only k (fun h => h))
                          have Lb15 := hide Lb12.out
                          have O15 := hide (O12.out.trans k)
                          have Ha15 := hide HN
                          have La15 := hide hl
                          have N15 : Hid (g12 ≠ g15) := hide nba.symm
                          clear k HN hg hl nba
                          refine hK.out _ _ trivial (fun hHeld => ?_)
                          clear hK K
                          try simp only [Act.put, gp]
                          refine wpAnyH_ready (rs := [8]) (by kernel_rfl) (by simp) ?_
                          refine AllReadyH.cons rfl (fun K hK => ?_) AllReadyH.nil
                          try simp only [ga]
                          try go_simp
                          refine (HQ4.out _ (HK3.out.trans O15.out)).mono ?_
                          rintro e w4 ⟨⟨nm4, dl4, jm4, A4, n4, c4, rfl⟩, k4⟩
                          have Ha16 := hide (Ha15.out.only k4 (fun h => h))
                          have La16 := hide La15.out
                          have Hb16 := hide (Hb15.out.only k4 (fun h => h))
                          have Lb16 := hide Lb15.out
                          have N16 := hide N15.out
                          have O16 := hide (O15.out.trans k4)
                          clear k4
                          refine hK.out _ _ trivial (fun hHeld => ?_)
                          clear hK K
                          try simp only [Act.put, gp]
                          refine tk 9 ?_ rfl ?_ ?_
                          rotate_left
                          · (intro w9 hS9; (try simp only [ga]); go_simp <;> rfl)
                          try simp only [Act.put, gp]
                          refine tk 10 ?_ rfl ?_ ?_
                          rotate_left
                          · (intro w9 hS9; (try simp only [ga]); go_simp <;> rfl)
                          try simp only [Act.put, gp]
                          refine tk 11 ?_ rfl ?_ ?_
                          rotate_left
                          · (intro w9 hS9; (try simp only [ga]); go_simp <;> rfl)
                          try simp only [Act.put, gp]
                          refine tk 12 ?_ rfl ?_ ?_
                          rotate_left
                          · (intro w9 hS9; (try simp only [ga]); go_simp <;> rfl)
                          try simp only [Act.put, gp]
                          obtain ⟨⟨a0, a1, a2, a3⟩, fa0, fa1, fa2, fa3⟩ := Ha16.out.four
                          refine rdy 15 rfl (fun K hK => ?_)
                          try simp only [ga]
                          try go_simp
                          have Hb' := hide ((((Hb16.out.far (p := ⟨g15, 0, none⟩) (N16.out) (.string nm4)).far (p := ⟨g15, 1, none⟩) (N16.out) (.int .i64 dl4)).far (p := ⟨g15, 2, none⟩) (N16.out) (.int .i64 jm4)).far (p := ⟨g15, 3, none⟩) (N16.out) (.slice A4 n4 c4))
                          have O' := hide ((((O16.out.setCell (p := ⟨g15, 0, none⟩) (Or.inr La16.out) (.string nm4)).setCell (p := ⟨g15, 1, none⟩) (Or.inr La16.out) (.int .i64 dl4)).setCell (p := ⟨g15, 2, none⟩) (Or.inr La16.out) (.int .i64 jm4)).setCell (p := ⟨g15, 3, none⟩) (Or.inr La16.out) (.slice A4 n4 c4))
                          generalize hY : World.setCell (World.setCell (World.setCell (World.setCell _ _ _) _ _) _ _) _ _ = Y
                          rw [hY] at Hb' O'
                          clear hY a0 a1 a2 a3 fa0 fa1 fa2 fa3
                          refine hK.out _ _ trivial (fun hHeld => ?_)
                          clear hK K
                          try simp only [Act.put, gp]
                          obtain ⟨b0, b1⟩ := Hb'.out.two
                          have fb0 := Hb'.out.frozen 0
                          have fb1 := Hb'.out.frozen 1
                          refine rdy 16 rfl (fun K hK => ?_)
                          try simp only [ga]
                          try go_simp
                          have Hb2 := hide ((Hb'.out.set_ 0 (.int .i64 x4)).set_ 1 (.int .i64 y4))
                          have O2 := hide ((O'.out.setCell (p := ⟨g12, 0, none⟩) (Or.inr Lb16.out) (.int .i64 x4)).setCell (p := ⟨g12, 1, none⟩) (Or.inr Lb16.out) (.int .i64 y4))
                          generalize hZ : World.setCell (World.setCell Y _ _) _ _ = Z
                          rw [hZ] at Hb2 O2
                          clear hZ b0 b1 fb0 fb1
                          refine hK.out _ _ trivial (fun hHeld => ?_)
                          clear hK K
                          try simp only [Act.put, gp]
                          refine tk 17 ?_ rfl ?_ ?_
                          rotate_left
                          · (intro w9 hS9; (try simp only [ga]); go_simp <;> rfl)
                          try simp only [Act.put, gp]
                          refine wpAnyH_done (by kernel_rfl) ?_ _
                          try simp only [Exit.then]
                          go_wp2_with fail
                          go_meet
                          exact ⟨g12, rfl, rfl, Hb2, O2⟩
                    · try simp only [ga]
                      try go_simp
                      generalize hX : World.alloc _ _ = X17_
                      have k : Only NoBlk _ X17_ := hX ▸ (Only.refl NoBlk _).alloc _
                      have HN : Blk X17_ _ 25 #[.string ⟨#[]⟩, .int .i64 0, .int .i64 0, .slice none 0 0] := hX ▸ Blk.new _ _ _
                      have hl := O0.out.size
                      clear hX
                      generalize hg : Array.size (World.heap _) = g17 at HN  hl ⊢
                      have O17 := hide (O0.out.trans k)
                      have Ha17 := hide HN
                      have La17 := hide hl
                      clear k HN hg hl
                      refine hK.out _ _ trivial (fun hHeld => ?_)
                      clear hK K
                      try simp only [Act.put, gp]
                      refine wpAnyH_ready (rs := [0, 14]) (by kernel_rfl) (by simp) ?_
                      refine AllReadyH.cons rfl (fun K hK => ?_) (AllReadyH.cons rfl (fun K hK => ?_) AllReadyH.nil)
                      · try simp only [ga]
                        try go_simp
                        refine (HHd.out _).mono ?_
                        rintro e Vh ⟨rfl, hvh⟩
                        obtain rfl := hvh.symm
                        have Ha18 := Ha17
                        have La18 := La17
                        have O18 := O17
                        refine hK.out _ _ trivial (fun hHeld => ?_)
                        clear hK K
                        try simp only [Act.put, gp]
                        refine tk 1 ?_ rfl ?_ ?_
                        rotate_left
                        · (intro w9 hS9; (try simp only [ga]); go_simp <;> rfl)
                        try simp only [Act.put, gp]
                        refine tk 6 ?_ rfl ?_ ?_
                        rotate_left
                        · (intro w9 hS9; (try simp only [ga]); go_simp <;> rfl)
                        try simp only [Act.put, gp]
                        refine tk 7 ?_ rfl ?_ ?_
                        rotate_left
                        · (intro w9 hS9; (try simp only [ga]); go_simp <;> rfl)
                        try simp only [Act.put, gp]
                        rw [HF4.out]
                        refine wpAnyH_ready (rs := [8, 14]) (by kernel_rfl) (by simp) ?_
                        refine AllReadyH.cons rfl (fun K hK => ?_) (AllReadyH.cons rfl (fun K hK => ?_) AllReadyH.nil)
                        · try simp only [ga]
                          try go_simp
                          refine (HQ4.out _ (HK3.out.trans O18.out)).mono ?_
                          rintro e w4 ⟨⟨nm4, dl4, jm4, A4, n4, c4, rfl⟩, k4⟩
                          have Ha19 := hide (Ha18.out.only k4 (fun h => h))
                          have La19 := hide La18.out
                          have O19 := hide (O18.out.trans k4)
                          clear k4
                          refine hK.out _ _ trivial (fun hHeld => ?_)
                          clear hK K
                          try simp only [Act.put, gp]
                          refine tk 9 ?_ rfl ?_ ?_
                          rotate_left
                          · (intro w9 hS9; (try simp only [ga]); go_simp <;> rfl)
                          try simp only [Act.put, gp]
                          refine tk 10 ?_ rfl ?_ ?_
                          rotate_left
                          · (intro w9 hS9; (try simp only [ga]); go_simp <;> rfl)
                          try simp only [Act.put, gp]
                          refine tk 11 ?_ rfl ?_ ?_
                          rotate_left
                          · (intro w9 hS9; (try simp only [ga]); go_simp <;> rfl)
                          try simp only [Act.put, gp]
                          refine tk 12 ?_ rfl ?_ ?_
                          rotate_left
                          · (intro w9 hS9; (try simp only [ga]); go_simp <;> rfl)
                          try simp only [Act.put, gp]
                          refine wpAnyH_ready (rs := [14]) (by kernel_rfl) (by simp) ?_
                          refine AllReadyH.cons rfl (fun K hK => ?_) AllReadyH.nil
                          try simp only [ga]
                          try go_simp
                          generalize hX : World.alloc _ _ = X20_
                          have k : Only NoBlk _ X20_ := hX ▸ (Only.refl NoBlk _).alloc _
                          have HN : Blk X20_ _ 27 #[.int .i64 0, .int .i64 0] := hX ▸ Blk.new _ _ _
                          have nab := Nat.ne_of_lt Ha19.out.lt
                          have hl := O19.out.size
                          clear hX
                          generalize hg : Array.size (World.heap _) = g20 at HN nab hl ⊢
                          have Ha20 := hide (Ha19.out.only k (fun h => h))
                          have La20 := hide La19.out
                          have O20 := hide (O19.out.trans k)
                          have Hb20 := hide HN
                          have Lb20 := hide hl
                          have N20 : Hid (g20 ≠ g17) := hide nab.symm
                          clear k HN hg hl nab
                          refine hK.out _ _ trivial (fun hHeld => ?_)
                          clear hK K
                          try simp only [Act.put, gp]
                          obtain ⟨⟨a0, a1, a2, a3⟩, fa0, fa1, fa2, fa3⟩ := Ha20.out.four
                          refine rdy 15 rfl (fun K hK => ?_)
                          try simp only [ga]
                          try go_simp
                          have Hb' := hide ((((Hb20.out.far (p := ⟨g17, 0, none⟩) (N20.out) (.string nm4)).far (p := ⟨g17, 1, none⟩) (N20.out) (.int .i64 dl4)).far (p := ⟨g17, 2, none⟩) (N20.out) (.int .i64 jm4)).far (p := ⟨g17, 3, none⟩) (N20.out) (.slice A4 n4 c4))
                          have O' := hide ((((O20.out.setCell (p := ⟨g17, 0, none⟩) (Or.inr La20.out) (.string nm4)).setCell (p := ⟨g17, 1, none⟩) (Or.inr La20.out) (.int .i64 dl4)).setCell (p := ⟨g17, 2, none⟩) (Or.inr La20.out) (.int .i64 jm4)).setCell (p := ⟨g17, 3, none⟩) (Or.inr La20.out) (.slice A4 n4 c4))
                          generalize hY : World.setCell (World.setCell (World.setCell (World.setCell _ _ _) _ _) _ _) _ _ = Y
                          rw [hY] at Hb' O'
                          clear hY a0 a1 a2 a3 fa0 fa1 fa2 fa3
                          refine hK.out _ _ trivial (fun hHeld => ?_)
                          clear hK K
                          try simp only [Act.put, gp]
                          obtain ⟨b0, b1⟩ := Hb'.out.two
                          have fb0 := Hb'.out.frozen 0
                          have fb1 := Hb'.out.frozen 1
                          refine rdy 16 rfl (fun K hK => ?_)
                          try simp only [ga]
                          try go_simp
                          have Hb2 := hide ((Hb'.out.set_ 0 (.int .i64 x4)).set_ 1 (.int .i64 y4))
                          have O2 := hide ((O'.out.setCell (p := ⟨g20, 0, none⟩) (Or.inr Lb20.out) (.int .i64 x4)).setCell (p := ⟨g20, 1, none⟩) (Or.inr Lb20.out) (.int .i64 y4))
                          generalize hZ : World.setCell (World.setCell Y _ _) _ _ = Z
                          rw [hZ] at Hb2 O2
                          clear hZ b0 b1 fb0 fb1
                          refine hK.out _ _ trivial (fun hHeld => ?_)
                          clear hK K
                          try simp only [Act.put, gp]
                          refine tk 17 ?_ rfl ?_ ?_
                          rotate_left
                          · (intro w9 hS9; (try simp only [ga]); go_simp <;> rfl)
                          try simp only [Act.put, gp]
                          refine wpAnyH_done (by kernel_rfl) ?_ _
                          try simp only [Exit.then]
                          go_wp2_with fail
                          go_meet
                          exact ⟨g20, rfl, rfl, Hb2, O2⟩
                        · try simp only [ga]
                          try go_simp
                          generalize hX : World.alloc _ _ = X21_
                          have k : Only NoBlk _ X21_ := hX ▸ (Only.refl NoBlk _).alloc _
                          have HN : Blk X21_ _ 27 #[.int .i64 0, .int .i64 0] := hX ▸ Blk.new _ _ _
                          have nab := Nat.ne_of_lt Ha18.out.lt
                          have hl := O18.out.size
                          clear hX
                          generalize hg : Array.size (World.heap _) = g21 at HN nab hl ⊢
                          have Ha21 := hide (Ha18.out.only k (fun h => h))
                          have La21 := hide La18.out
                          have O21 := hide (O18.out.trans k)
                          have Hb21 := hide HN
                          have Lb21 := hide hl
                          have N21 : Hid (g21 ≠ g17) := hide nab.symm
                          clear k HN hg hl nab
                          refine hK.out _ _ trivial (fun hHeld => ?_)
                          clear hK K
                          try simp only [Act.put, gp]
                          refine wpAnyH_ready (rs := [8]) (by kernel_rfl) (by simp) ?_
                          refine AllReadyH.cons rfl (fun K hK => ?_) AllReadyH.nil
                          try simp only [ga]
                          try go_simp
                          refine (HQ4.out _ (HK3.out.trans O21.out)).mono ?_
                          rintro e w4 ⟨⟨nm4, dl4, jm4, A4, n4, c4, rfl⟩, k4⟩
                          have Ha22 := hide (Ha21.out.only k4 (fun h => h))
                          have La22 := hide La21.out
                          have Hb22 := hide (Hb21.out.only k4 (fun h => h))
                          have Lb22 := hide Lb21.out
                          have N22 := hide N21.out
                          have O22 := hide (O21.out.trans k4)
                          clear k4
                          refine hK.out _ _ trivial (fun hHeld => ?_)
                          clear hK K
                          try simp only [Act.put, gp]
                          refine tk 9 ?_ rfl ?_ ?_
                          rotate_left
                          · (intro w9 hS9; (try simp only [ga]); go_simp <;> rfl)
                          try simp only [Act.put, gp]
                          refine tk 10 ?_ rfl ?_ ?_
                          rotate_left
                          · (intro w9 hS9; (try simp only [ga]); go_simp <;> rfl)
                          try simp only [Act.put, gp]
                          refine tk 11 ?_ rfl ?_ ?_
                          rotate_left
                          · (intro w9 hS9; (try simp only [ga]); go_simp <;> rfl)
                          try simp only [Act.put, gp]
                          refine tk 12 ?_ rfl ?_ ?_
                          rotate_left
                          · (intro w9 hS9; (try simp only [ga]); go_simp <;> rfl)
                          try simp only [Act.put, gp]
                          obtain ⟨⟨a0, a1, a2, a3⟩, fa0, fa1, fa2, fa3⟩ := Ha22.out.four
                          refine rdy 15 rfl (fun K hK => ?_)
                          try simp only [ga]
                          try go_simp
                          have Hb' := hide ((((Hb22.out.far (p := ⟨g17, 0, none⟩) (N22.out) (.string nm4)).far (p := ⟨g17, 1, none⟩) (N22.out) (.int .i64 dl4)).far (p := ⟨g17, 2, none⟩) (N22.out) (.int .i64 jm4)).far (p := ⟨g17, 3, none⟩) (N22.out) (.slice A4 n4 c4))
                          have O' := hide ((((O22.out.setCell (p := ⟨g17, 0, none⟩) (Or.inr La22.out) (.string nm4)).setCell (p := ⟨g17, 1, none⟩) (Or.inr La22.out) (.int .i64 dl4)).setCell (p := ⟨g17, 2, none⟩) (Or.inr La22.out) (.int .i64 jm4)).setCell (p := ⟨g17, 3, none⟩) (Or.inr La22.out) (.slice A4 n4 c4))
                          generalize hY : World.setCell (World.setCell (World.setCell (World.setCell _ _ _) _ _) _ _) _ _ = Y
                          rw [hY] at Hb' O'
                          clear hY a0 a1 a2 a3 fa0 fa1 fa2 fa3
                          refine hK.out _ _ trivial (fun hHeld => ?_)
                          clear hK K
                          try simp only [Act.put, gp]
                          obtain ⟨b0, b1⟩ := Hb'.out.two
                          have fb0 := Hb'.out.frozen 0
                          have fb1 := Hb'.out.frozen 1
                          refine rdy 16 rfl (fun K hK => ?_)
                          try simp only [ga]
                          try go_simp
                          have Hb2 := hide ((Hb'.out.set_ 0 (.int .i64 x4)).set_ 1 (.int .i64 y4))
                          have O2 := hide ((O'.out.setCell (p := ⟨g21, 0, none⟩) (Or.inr Lb22.out) (.int .i64 x4)).setCell (p := ⟨g21, 1, none⟩) (Or.inr Lb22.out) (.int .i64 y4))
                          generalize hZ : World.setCell (World.setCell Y _ _) _ _ = Z
                          rw [hZ] at Hb2 O2
                          clear hZ b0 b1 fb0 fb1
                          refine hK.out _ _ trivial (fun hHeld => ?_)
                          clear hK K
                          try simp only [Act.put, gp]
                          refine tk 17 ?_ rfl ?_ ?_
                          rotate_left
                          · (intro w9 hS9; (try simp only [ga]); go_simp <;> rfl)
                          try simp only [Act.put, gp]
                          refine wpAnyH_done (by kernel_rfl) ?_ _
                          try simp only [Exit.then]
                          go_wp2_with fail
                          go_meet
                          exact ⟨g21, rfl, rfl, Hb2, O2⟩
                      · try simp only [ga]
                        try go_simp
                        generalize hX : World.alloc _ _ = X23_
                        have k : Only NoBlk _ X23_ := hX ▸ (Only.refl NoBlk _).alloc _
                        have HN : Blk X23_ _ 27 #[.int .i64 0, .int .i64 0] := hX ▸ Blk.new _ _ _
                        have nab := Nat.ne_of_lt Ha17.out.lt
                        have hl := O17.out.size
                        clear hX
                        generalize hg : Array.size (World.heap _) = g23 at HN nab hl ⊢
                        have Ha23 := hide (Ha17.out.only k (fun h => h))
                        have La23 := hide La17.out
                        have O23 := hide (O17.out.trans k)
                        have Hb23 := hide HN
                        have Lb23 := hide hl
                        have N23 : Hid (g23 ≠ g17) := hide nab.symm
                        clear k HN hg hl nab
                        refine hK.out _ _ trivial (fun hHeld => ?_)
                        clear hK K
                        try simp only [Act.put, gp]
                        refine wpAnyH_ready (rs := [0]) (by kernel_rfl) (by simp) ?_
                        refine AllReadyH.cons rfl (fun K hK => ?_) AllReadyH.nil
                        try simp only [ga]
                        try go_simp
                        refine (HHd.out _).mono ?_
                        rintro e Vh ⟨rfl, hvh⟩
                        obtain rfl := hvh.symm
                        have Ha24 := Ha23
                        have La24 := La23
                        have Hb24 := Hb23
                        have Lb24 := Lb23
                        have N24 := N23
                        have O24 := O23
                        refine hK.out _ _ trivial (fun hHeld => ?_)
                        clear hK K
                        try simp only [Act.put, gp]
                        refine tk 1 ?_ rfl ?_ ?_
                        rotate_left
                        · (intro w9 hS9; (try simp only [ga]); go_simp <;> rfl)
                        try simp only [Act.put, gp]
                        refine tk 6 ?_ rfl ?_ ?_
                        rotate_left
                        · (intro w9 hS9; (try simp only [ga]); go_simp <;> rfl)
                        try simp only [Act.put, gp]
                        refine tk 7 ?_ rfl ?_ ?_
                        rotate_left
                        · (intro w9 hS9; (try simp only [ga]); go_simp <;> rfl)
                        try simp only [Act.put, gp]
                        rw [HF4.out]
                        refine wpAnyH_ready (rs := [8]) (by kernel_rfl) (by simp) ?_
                        refine AllReadyH.cons rfl (fun K hK => ?_) AllReadyH.nil
                        try simp only [ga]
                        try go_simp
                        refine (HQ4.out _ (HK3.out.trans O24.out)).mono ?_
                        rintro e w4 ⟨⟨nm4, dl4, jm4, A4, n4, c4, rfl⟩, k4⟩
                        have Ha25 := hide (Ha24.out.only k4 (fun h => h))
                        have La25 := hide La24.out
                        have Hb25 := hide (Hb24.out.only k4 (fun h => h))
                        have Lb25 := hide Lb24.out
                        have N25 := hide N24.out
                        have O25 := hide (O24.out.trans k4)
                        clear k4
                        refine hK.out _ _ trivial (fun hHeld => ?_)
                        clear hK K
                        try simp only [Act.put, gp]
                        refine tk 9 ?_ rfl ?_ ?_
                        rotate_left
                        · (intro w9 hS9; (try simp only [ga]); go_simp <;> rfl)
                        try simp only [Act.put, gp]
                        refine tk 10 ?_ rfl ?_ ?_
                        rotate_left
                        · (intro w9 hS9; (try simp only [ga]); go_simp <;> rfl)
                        try simp only [Act.put, gp]
                        refine tk 11 ?_ rfl ?_ ?_
                        rotate_left
                        · (intro w9 hS9; (try simp only [ga]); go_simp <;> rfl)
                        try simp only [Act.put, gp]
                        refine tk 12 ?_ rfl ?_ ?_
                        rotate_left
                        · (intro w9 hS9; (try simp only [ga]); go_simp <;> rfl)
                        try simp only [Act.put, gp]
                        obtain ⟨⟨a0, a1, a2, a3⟩, fa0, fa1, fa2, fa3⟩ := Ha25.out.four
                        refine rdy 15 rfl (fun K hK => ?_)
                        try simp only [ga]
                        try go_simp
                        have Hb' := hide ((((Hb25.out.far (p := ⟨g17, 0, none⟩) (N25.out) (.string nm4)).far (p := ⟨g17, 1, none⟩) (N25.out) (.int .i64 dl4)).far (p := ⟨g17, 2, none⟩) (N25.out) (.int .i64 jm4)).far (p := ⟨g17, 3, none⟩) (N25.out) (.slice A4 n4 c4))
                        have O' := hide ((((O25.out.setCell (p := ⟨g17, 0, none⟩) (Or.inr La25.out) (.string nm4)).setCell (p := ⟨g17, 1, none⟩) (Or.inr La25.out) (.int .i64 dl4)).setCell (p := ⟨g17, 2, none⟩) (Or.inr La25.out) (.int .i64 jm4)).setCell (p := ⟨g17, 3, none⟩) (Or.inr La25.out) (.slice A4 n4 c4))
                        generalize hY : World.setCell (World.setCell (World.setCell (World.setCell _ _ _) _ _) _ _) _ _ = Y
                        rw [hY] at Hb' O'
                        clear hY a0 a1 a2 a3 fa0 fa1 fa2 fa3
                        refine hK.out _ _ trivial (fun hHeld => ?_)
                        clear hK K
                        try simp only [Act.put, gp]
                        obtain ⟨b0, b1⟩ := Hb'.out.two
                        have fb0 := Hb'.out.frozen 0
                        have fb1 := Hb'.out.frozen 1
                        refine rdy 16 rfl (fun K hK => ?_)
                        try simp only [ga]
                        try go_simp
                        have Hb2 := hide ((Hb'.out.set_ 0 (.int .i64 x4)).set_ 1 (.int .i64 y4))
                        have O2 := hide ((O'.out.setCell (p := ⟨g23, 0, none⟩) (Or.inr Lb25.out) (.int .i64 x4)).setCell (p := ⟨g23, 1, none⟩) (Or.inr Lb25.out) (.int .i64 y4))
                        generalize hZ : World.setCell (World.setCell Y _ _) _ _ = Z
                        rw [hZ] at Hb2 O2
                        clear hZ b0 b1 fb0 fb1
                        refine hK.out _ _ trivial (fun hHeld => ?_)
                        clear hK K
                        try simp only [Act.put, gp]
                        refine tk 17 ?_ rfl ?_ ?_
                        rotate_left
                        · (intro w9 hS9; (try simp only [ga]); go_simp <;> rfl)
                        try simp only [Act.put, gp]
                        refine wpAnyH_done (by kernel_rfl) ?_ _
                        try simp only [Exit.then]
                        go_wp2_with fail
                        go_meet
                        exact ⟨g23, rfl, rfl, Hb2, O2⟩
                    · try simp only [ga]
                      try go_simp
                      generalize hX : World.alloc _ _ = X26_
                      have k : Only NoBlk _ X26_ := hX ▸ (Only.refl NoBlk _).alloc _
                      have HN : Blk X26_ _ 27 #[.int .i64 0, .int .i64 0] := hX ▸ Blk.new _ _ _
                      have hl := O0.out.size
                      clear hX
                      generalize hg : Array.size (World.heap _) = g26 at HN  hl ⊢
                      have O26 := hide (O0.out.trans k)
                      have Hb26 := hide HN
                      have Lb26 := hide hl
                      clear k HN hg hl
                      refine hK.out _ _ trivial (fun hHeld => ?_)
                      clear hK K
                      try simp only [Act.put, gp]
                      refine wpAnyH_ready (rs := [0, 13]) (by kernel_rfl) (by simp) ?_
                      refine AllReadyH.cons rfl (fun K hK => ?_) (AllReadyH.cons rfl (fun K hK => ?_) AllReadyH.nil)
                      · try simp only [ga]
                        try go_simp
                        refine (HHd.out _).mono ?_
                        rintro e Vh ⟨rfl, hvh⟩
                        obtain rfl := hvh.symm
                        have Hb27 := Hb26
                        have Lb27 := Lb26
                        have O27 := O26
                        refine hK.out _ _ trivial (fun hHeld => ?_)
                        clear hK K
                        try simp only [Act.put, gp]
                        refine tk 1 ?_ rfl ?_ ?_
                        rotate_left
                        · (intro w9 hS9; (try simp only [ga]); go_simp <;> rfl)
                        try simp only [Act.put, gp]
                        refine tk 6 ?_ rfl ?_ ?_
                        rotate_left
                        · (intro w9 hS9; (try simp only [ga]); go_simp <;> rfl)
                        try simp only [Act.put, gp]
                        refine tk 7 ?_ rfl ?_ ?_
                        rotate_left
                        · (intro w9 hS9; (try simp only [ga]); go_simp <;> rfl)
                        try simp only [Act.put, gp]
                        rw [HF4.out]
                        refine wpAnyH_ready (rs := [8, 13]) (by kernel_rfl) (by simp) ?_
                        refine AllReadyH.cons rfl (fun K hK => ?_) (AllReadyH.cons rfl (fun K hK => ?_) AllReadyH.nil)
                        · try simp only [ga]
                          try go_simp
                          refine (HQ4.out _ (HK3.out.trans O27.out)).mono ?_
                          rintro e w4 ⟨⟨nm4, dl4, jm4, A4, n4, c4, rfl⟩, k4⟩
                          have Hb28 := hide (Hb27.out.only k4 (fun h => h))
                          have Lb28 := hide Lb27.out
                          have O28 := hide (O27.out.trans k4)
                          clear k4
                          refine hK.out _ _ trivial (fun hHeld => ?_)
                          clear hK K
                          try simp only [Act.put, gp]
                          refine tk 9 ?_ rfl ?_ ?_
                          rotate_left
                          · (intro w9 hS9; (try simp only [ga]); go_simp <;> rfl)
                          try simp only [Act.put, gp]
                          refine tk 10 ?_ rfl ?_ ?_
                          rotate_left
                          · (intro w9 hS9; (try simp only [ga]); go_simp <;> rfl)
                          try simp only [Act.put, gp]
                          refine tk 11 ?_ rfl ?_ ?_
                          rotate_left
                          · (intro w9 hS9; (try simp only [ga]); go_simp <;> rfl)
                          try simp only [Act.put, gp]
                          refine tk 12 ?_ rfl ?_ ?_
                          rotate_left
                          · (intro w9 hS9; (try simp only [ga]); go_simp <;> rfl)
                          try simp only [Act.put, gp]
                          refine wpAnyH_ready (rs := [13]) (by kernel_rfl) (by simp) ?_
                          refine AllReadyH.cons rfl (fun K hK => ?_) AllReadyH.nil
                          try simp only [ga]
                          try go_simp
                          generalize hX : World.alloc _ _ = X29_
                          have k : Only NoBlk _ X29_ := hX ▸ (Only.refl NoBlk _).alloc _
                          have HN : Blk X29_ _ 25 #[.string ⟨#[]⟩, .int .i64 0, .int .i64 0, .slice none 0 0] := hX ▸ Blk.new _ _ _
                          have nba := (Nat.ne_of_lt Hb28.out.lt).symm
                          have hl := O28.out.size
                          clear hX
                          generalize hg : Array.size (World.heap _) = g29 at HN nba hl ⊢
                          have Hb29 := hide (Hb28.out.only k (fun h => h))
                          have Lb29 := hide Lb28.out
                          have O29 := hide (O28.out.trans k)
                          have Ha29 := hide HN
                          have La29 := hide hl
                          have N29 : Hid (g26 ≠ g29) := hide nba.symm
                          clear k HN hg hl nba
                          refine hK.out _ _ trivial (fun hHeld => ?_)
                          clear hK K
                          try simp only [Act.put, gp]
                          obtain ⟨⟨a0, a1, a2, a3⟩, fa0, fa1, fa2, fa3⟩ := Ha29.out.four
                          refine rdy 15 rfl (fun K hK => ?_)
                          try simp only [ga]
                          try go_simp
                          have Hb' := hide ((((Hb29.out.far (p := ⟨g29, 0, none⟩) (N29.out) (.string nm4)).far (p := ⟨g29, 1, none⟩) (N29.out) (.int .i64 dl4)).far (p := ⟨g29, 2, none⟩) (N29.out) (.int .i64 jm4)).far (p := ⟨g29, 3, none⟩) (N29.out) (.slice A4 n4 c4))
                          have O' := hide ((((O29.out.setCell (p := ⟨g29, 0, none⟩) (Or.inr La29.out) (.string nm4)).setCell (p := ⟨g29, 1, none⟩) (Or.inr La29.out) (.int .i64 dl4)).setCell (p := ⟨g29, 2, none⟩) (Or.inr La29.out) (.int .i64 jm4)).setCell (p := ⟨g29, 3, none⟩) (Or.inr La29.out) (.slice A4 n4 c4))
                          generalize hY : World.setCell (World.setCell (World.setCell (World.setCell _ _ _) _ _) _ _) _ _ = Y
                          rw [hY] at Hb' O'
                          clear hY a0 a1 a2 a3 fa0 fa1 fa2 fa3
                          refine hK.out _ _ trivial (fun hHeld => ?_)
                          clear hK K
                          try simp only [Act.put, gp]
                          obtain ⟨b0, b1⟩ := Hb'.out.two
                          have fb0 := Hb'.out.frozen 0
                          have fb1 := Hb'.out.frozen 1
                          refine rdy 16 rfl (fun K hK => ?_)
                          try simp only [ga]
                          try go_simp
                          have Hb2 := hide ((Hb'.out.set_ 0 (.int .i64 x4)).set_ 1 (.int .i64 y4))
                          have O2 := hide ((O'.out.setCell (p := ⟨g26, 0, none⟩) (Or.inr Lb29.out) (.int .i64 x4)).setCell (p := ⟨g26, 1, none⟩) (Or.inr Lb29.out) (.int .i64 y4))
                          generalize hZ : World.setCell (World.setCell Y _ _) _ _ = Z
                          rw [hZ] at Hb2 O2
                          clear hZ b0 b1 fb0 fb1
                          refine hK.out _ _ trivial (fun hHeld => ?_)
                          clear hK K
                          try simp only [Act.put, gp]
                          refine tk 17 ?_ rfl ?_ ?_
                          rotate_left
                          · (intro w9 hS9; (try simp only [ga]); go_simp <;> rfl)
                          try simp only [Act.put, gp]
                          refine wpAnyH_done (by kernel_rfl) ?_ _
                          try simp only [Exit.then]
                          go_wp2_with fail
                          go_meet
                          exact ⟨g26, rfl, rfl, Hb2, O2⟩
                        · try simp only [ga]
                          try go_simp
                          generalize hX : World.alloc _ _ = X30_
                          have k : Only NoBlk _ X30_ := hX ▸ (Only.refl NoBlk _).alloc _
                          have HN : Blk X30_ _ 25 #[.string ⟨#[]⟩, .int .i64 0, .int .i64 0, .slice none 0 0] := hX ▸ Blk.new _ _ _
                          have nba := (Nat.ne_of_lt Hb27.out.lt).symm
                          have hl := O27.out.size
                          clear hX
                          generalize hg : Array.size (World.heap _) = g30 at HN nba hl ⊢
                          have Hb30 := hide (Hb27.out.only k (fun h => h))
                          have Lb30 := hide Lb27.out
                          have O30 := hide (O27.out.trans k)
                          have Ha30 := hide HN
                          have La30 := hide hl
                          have N30 : Hid (g26 ≠ g30) := hide nba.symm
                          clear k HN hg hl nba
                          refine hK.out _ _ trivial (fun hHeld => ?_)
                          clear hK K
                          try simp only [Act.put, gp]
                          refine wpAnyH_ready (rs := [8]) (by kernel_rfl) (by simp) ?_
                          refine AllReadyH.cons rfl (fun K hK => ?_) AllReadyH.nil
                          try simp only [ga]
                          try go_simp
                          refine (HQ4.out _ (HK3.out.trans O30.out)).mono ?_
                          rintro e w4 ⟨⟨nm4, dl4, jm4, A4, n4, c4, rfl⟩, k4⟩
                          have Ha31 := hide (Ha30.out.only k4 (fun h => h))
                          have La31 := hide La30.out
                          have Hb31 := hide (Hb30.out.only k4 (fun h => h))
                          have Lb31 := hide Lb30.out
                          have N31 := hide N30.out
                          have O31 := hide (O30.out.trans k4)
                          clear k4
                          refine hK.out _ _ trivial (fun hHeld => ?_)
                          clear hK K
                          try simp only [Act.put, gp]
                          refine tk 9 ?_ rfl ?_ ?_
                          rotate_left
                          · (intro w9 hS9; (try simp only [ga]); go_simp <;> rfl)
                          try simp only [Act.put, gp]
                          refine tk 10 ?_ rfl ?_ ?_
                          rotate_left
                          · (intro w9 hS9; (try simp only [ga]); go_simp <;> rfl)
                          try simp only [Act.put, gp]
                          refine tk 11 ?_ rfl ?_ ?_
                          rotate_left
                          · (intro w9 hS9; (try simp only [ga]); go_simp <;> rfl)
                          try simp only [Act.put, gp]
                          refine tk 12 ?_ rfl ?_ ?_
                          rotate_left
                          · (intro w9 hS9; (try simp only [ga]); go_simp <;> rfl)
                          try simp only [Act.put, gp]
                          obtain ⟨⟨a0, a1, a2, a3⟩, fa0, fa1, fa2, fa3⟩ := Ha31.out.four
                          refine rdy 15 rfl (fun K hK => ?_)
                          try simp only [ga]
                          try go_simp
                          have Hb' := hide ((((Hb31.out.far (p := ⟨g30, 0, none⟩) (N31.out) (.string nm4)).far (p := ⟨g30, 1, none⟩) (N31.out) (.int .i64 dl4)).far (p := ⟨g30, 2, none⟩) (N31.out) (.int .i64 jm4)).far (p := ⟨g30, 3, none⟩) (N31.out) (.slice A4 n4 c4))
                          have O' := hide ((((O31.out.setCell (p := ⟨g30, 0, none⟩) (Or.inr La31.out) (.string nm4)).setCell (p := ⟨g30, 1, none⟩) (Or.inr La31.out) (.int .i64 dl4)).setCell (p := ⟨g30, 2, none⟩) (Or.inr La31.out) (.int .i64 jm4)).setCell (p := ⟨g30, 3, none⟩) (Or.inr La31.out) (.slice A4 n4 c4))
                          generalize hY : World.setCell (World.setCell (World.setCell (World.setCell _ _ _) _ _) _ _) _ _ = Y
                          rw [hY] at Hb' O'
                          clear hY a0 a1 a2 a3 fa0 fa1 fa2 fa3
                          refine hK.out _ _ trivial (fun hHeld => ?_)
                          clear hK K
                          try simp only [Act.put, gp]
                          obtain ⟨b0, b1⟩ := Hb'.out.two
                          have fb0 := Hb'.out.frozen 0
                          have fb1 := Hb'.out.frozen 1
                          refine rdy 16 rfl (fun K hK => ?_)
                          try simp only [ga]
                          try go_simp
                          have Hb2 := hide ((Hb'.out.set_ 0 (.int .i64 x4)).set_ 1 (.int .i64 y4))
                          have O2 := hide ((O'.out.setCell (p := ⟨g26, 0, none⟩) (Or.inr Lb31.out) (.int .i64 x4)).setCell (p := ⟨g26, 1, none⟩) (Or.inr Lb31.out) (.int .i64 y4))
                          generalize hZ : World.setCell (World.setCell Y _ _) _ _ = Z
                          rw [hZ] at Hb2 O2
                          clear hZ b0 b1 fb0 fb1
                          refine hK.out _ _ trivial (fun hHeld => ?_)
                          clear hK K
                          try simp only [Act.put, gp]
                          refine tk 17 ?_ rfl ?_ ?_
                          rotate_left
                          · (intro w9 hS9; (try simp only [ga]); go_simp <;> rfl)
                          try simp only [Act.put, gp]
                          refine wpAnyH_done (by kernel_rfl) ?_ _
                          try simp only [Exit.then]
                          go_wp2_with fail
                          go_meet
                          exact ⟨g26, rfl, rfl, Hb2, O2⟩
                      · try simp only [ga]
                        try go_simp
                        generalize hX : World.alloc _ _ = X32_
                        have k : Only NoBlk _ X32_ := hX ▸ (Only.refl NoBlk _).alloc _
                        have HN : Blk X32_ _ 25 #[.string ⟨#[]⟩, .int .i64 0, .int .i64 0, .slice none 0 0] := hX ▸ Blk.new _ _ _
                        have nba := (Nat.ne_of_lt Hb26.out.lt).symm
                        have hl := O26.out.size
                        clear hX
                        generalize hg : Array.size (World.heap _) = g32 at HN nba hl ⊢
                        have Hb32 := hide (Hb26.out.only k (fun h => h))
                        have Lb32 := hide Lb26.out
                        have O32 := hide (O26.out.trans k)
                        have Ha32 := hide HN
                        have La32 := hide hl
                        have N32 : Hid (g26 ≠ g32) := hide nba.symm
                        clear k HN hg hl nba
                        refine hK.out _ _ trivial (fun hHeld => ?_)
                        clear hK K
                        try simp only [Act.put, gp]
                        refine wpAnyH_ready (rs := [0]) (by kernel_rfl) (by simp) ?_
                        refine AllReadyH.cons rfl (fun K hK => ?_) AllReadyH.nil
                        try simp only [ga]
                        try go_simp
                        refine (HHd.out _).mono ?_
                        rintro e Vh ⟨rfl, hvh⟩
                        obtain rfl := hvh.symm
                        have Ha33 := Ha32
                        have La33 := La32
                        have Hb33 := Hb32
                        have Lb33 := Lb32
                        have N33 := N32
                        have O33 := O32
                        refine hK.out _ _ trivial (fun hHeld => ?_)
                        clear hK K
                        try simp only [Act.put, gp]
                        refine tk 1 ?_ rfl ?_ ?_
                        rotate_left
                        · (intro w9 hS9; (try simp only [ga]); go_simp <;> rfl)
                        try simp only [Act.put, gp]
                        refine tk 6 ?_ rfl ?_ ?_
                        rotate_left
                        · (intro w9 hS9; (try simp only [ga]); go_simp <;> rfl)
                        try simp only [Act.put, gp]
                        refine tk 7 ?_ rfl ?_ ?_
                        rotate_left
                        · (intro w9 hS9; (try simp only [ga]); go_simp <;> rfl)
                        try simp only [Act.put, gp]
                        rw [HF4.out]
                        refine wpAnyH_ready (rs := [8]) (by kernel_rfl) (by simp) ?_
                        refine AllReadyH.cons rfl (fun K hK => ?_) AllReadyH.nil
                        try simp only [ga]
                        try go_simp
                        refine (HQ4.out _ (HK3.out.trans O33.out)).mono ?_
                        rintro e w4 ⟨⟨nm4, dl4, jm4, A4, n4, c4, rfl⟩, k4⟩
                        have Ha34 := hide (Ha33.out.only k4 (fun h => h))
                        have La34 := hide La33.out
                        have Hb34 := hide (Hb33.out.only k4 (fun h => h))
                        have Lb34 := hide Lb33.out
                        have N34 := hide N33.out
                        have O34 := hide (O33.out.trans k4)
                        clear k4
                        refine hK.out _ _ trivial (fun hHeld => ?_)
                        clear hK K
                        try simp only [Act.put, gp]
                        refine tk 9 ?_ rfl ?_ ?_
                        rotate_left
                        · (intro w9 hS9; (try simp only [ga]); go_simp <;> rfl)
                        try simp only [Act.put, gp]
                        refine tk 10 ?_ rfl ?_ ?_
                        rotate_left
                        · (intro w9 hS9; (try simp only [ga]); go_simp <;> rfl)
                        try simp only [Act.put, gp]
                        refine tk 11 ?_ rfl ?_ ?_
                        rotate_left
                        · (intro w9 hS9; (try simp only [ga]); go_simp <;> rfl)
                        try simp only [Act.put, gp]
                        refine tk 12 ?_ rfl ?_ ?_
                        rotate_left
                        · (intro w9 hS9; (try simp only [ga]); go_simp <;> rfl)
                        try simp only [Act.put, gp]
                        obtain ⟨⟨a0, a1, a2, a3⟩, fa0, fa1, fa2, fa3⟩ := Ha34.out.four
                        refine rdy 15 rfl (fun K hK => ?_)
                        try simp only [ga]
                        try go_simp
                        have Hb' := hide ((((Hb34.out.far (p := ⟨g32, 0, none⟩) (N34.out) (.string nm4)).far (p := ⟨g32, 1, none⟩) (N34.out) (.int .i64 dl4)).far (p := ⟨g32, 2, none⟩) (N34.out) (.int .i64 jm4)).far (p := ⟨g32, 3, none⟩) (N34.out) (.slice A4 n4 c4))
                        have O' := hide ((((O34.out.setCell (p := ⟨g32, 0, none⟩) (Or.inr La34.out) (.string nm4)).setCell (p := ⟨g32, 1, none⟩) (Or.inr La34.out) (.int .i64 dl4)).setCell (p := ⟨g32, 2, none⟩) (Or.inr La34.out) (.int .i64 jm4)).setCell (p := ⟨g32, 3, none⟩) (Or.inr La34.out) (.slice A4 n4 c4))
                        generalize hY : World.setCell (World.setCell (World.setCell (World.setCell _ _ _) _ _) _ _) _ _ = Y
                        rw [hY] at Hb' O'
                        clear hY a0 a1 a2 a3 fa0 fa1 fa2 fa3
                        refine hK.out _ _ trivial (fun hHeld => ?_)
                        clear hK K
                        try simp only [Act.put, gp]
                        obtain ⟨b0, b1⟩ := Hb'.out.two
                        have fb0 := Hb'.out.frozen 0
                        have fb1 := Hb'.out.frozen 1
                        refine rdy 16 rfl (fun K hK => ?_)
                        try simp only [ga]
                        try go_simp
                        have Hb2 := hide ((Hb'.out.set_ 0 (.int .i64 x4)).set_ 1 (.int .i64 y4))
                        have O2 := hide ((O'.out.setCell (p := ⟨g26, 0, none⟩) (Or.inr Lb34.out) (.int .i64 x4)).setCell (p := ⟨g26, 1, none⟩) (Or.inr Lb34.out) (.int .i64 y4))
                        generalize hZ : World.setCell (World.setCell Y _ _) _ _ = Z
                        rw [hZ] at Hb2 O2
                        clear hZ b0 b1 fb0 fb1
                        refine hK.out _ _ trivial (fun hHeld => ?_)
                        clear hK K
                        try simp only [Act.put, gp]
                        refine tk 17 ?_ rfl ?_ ?_
                        rotate_left
                        · (intro w9 hS9; (try simp only [ga]); go_simp <;> rfl)
                        try simp only [Act.put, gp]
                        refine wpAnyH_done (by kernel_rfl) ?_ _
                        try simp only [Exit.then]
                        go_wp2_with fail
                        go_meet
                        exact ⟨g26, rfl, rfl, Hb2, O2⟩
                  case rest =>
                    obtain ⟨g4, rfl, rfl, HB4, O4⟩ := hcut
                    replace HB1 := hide (HB1.out.only O4.out (fun h => h))
                    replace HB2 := hide (HB2.out.only O4.out (fun h => h))
                    replace HB3 := hide (HB3.out.only O4.out (fun h => h))
                    have HKc := hide (HK3.out.trans O4.out)
                    have HLv := hide (lives14_c wc (HV.out.only HKc.out))
                    obtain ⟨s10, s11⟩ := HB1.out.two
                    obtain ⟨s20, s21⟩ := HB2.out.two
                    obtain ⟨s30, s31⟩ := HB3.out.two
                    obtain ⟨s40, s41⟩ := HB4.out.two
                    obtain ⟨L1, L2, L3, L4⟩ := HLg.out
                    clear HLg HB1 HB2 HB3 HB4 O4 HK3 HV HQ1 HQ2 HQ3 HQ4 HD1 HD2 HD3 HJ1 HJ2 HJ3 HK1 HK2 HW1 HW2 HW3 HK0 z0 z1 n0 n1 tn hmin HF4
                    by_cases h10 : 10 < k
                    case pos =>
                      obtain ⟨⟨rfl, rfl, rfl⟩, ⟨rfl, rfl, rfl⟩, ⟨rfl, rfl, rfl⟩⟩ := L1 h10
                      obtain ⟨rfl, rfl, rfl⟩ := L4 (by omega)
                      have d1 : decide ((10 : Int) < (k : Int)) = true := by simp; omega
                      have d2 : decide (10 < k) = true := by simp; omega
                      have d3 : decide ((k : Int) ≤ 10) = false := by simp; omega
                      have d4 : decide (k ≤ 10) = false := by simp; omega
                      have d5 : decide ((k : Int) < 9) = false := by simp; omega
                      have d6 : decide (k < 9) = false := by simp; omega
                      clear L1 L2 L3 L4 h10
                      go_wp2_with fail
                      refine HLv.out.mono ?_
                      rintro e w9 ⟨rfl, k9⟩
                      have K9 := hide (HKc.out.trans k9)
                      clear k9
                      go_wp2_with fail
                      go_ret
                      exact ⟨rfl, K9.out⟩
                    case neg =>
                      obtain ⟨rfl, rfl, hE4⟩ := L2 h10
                      have d1 : decide ((10 : Int) < (k : Int)) = false := by simp; omega
                      have d2 : decide (10 < k) = false := by simp; omega
                      have d3 : decide ((k : Int) ≤ 10) = true := by simp; omega
                      have d4 : decide (k ≤ 10) = true := by simp; omega
                      have hbb : ∃ b : Bool, (E4 == 0) = b ∧ ((k : Int) % 2 == 0) = b := by
                        refine ⟨decide (k % 2 = 0), ?_, ?_⟩
                        · by_cases h : k % 2 = 0
                          · rw [decide_eq_true h, hE4.2 h]; rfl
                          · rw [decide_eq_false h]; exact beq_eq_false_iff_ne.2 (fun hx => h (hE4.1 hx))
                        · have ht : (k : Int) % 2 = ((k % 2 : Nat) : Int) := by omega
                          rw [ht]
                          by_cases h : k % 2 = 0
                          · rw [h]; rfl
                          · rw [decide_eq_false h]; exact beq_eq_false_iff_ne.2 (by omega)
                      obtain ⟨b, b1, b2⟩ := hbb
                      clear hE4
                      cases b with
                      | true =>
                        by_cases h9 : k < 9
                        case pos =>
                          obtain rfl := L3 h9
                          have d5 : decide ((k : Int) < 9) = true := by simp; omega
                          have d6 : decide (k < 9) = true := by simp; omega
                          clear L1 L2 L3 L4 h10 h9
                          go_wp2_with fail
                          refine HLv.out.mono ?_
                          rintro e w9 ⟨rfl, k9⟩
                          have K9 := hide (HKc.out.trans k9)
                          clear k9
                          go_wp2_with fail
                          go_ret
                          exact ⟨rfl, K9.out⟩
                        case neg =>
                          obtain ⟨rfl, rfl, rfl⟩ := L4 h9
                          have d5 : decide ((k : Int) < 9) = false := by simp; omega
                          have d6 : decide (k < 9) = false := by simp; omega
                          clear L1 L2 L3 L4 h10 h9
                          go_wp2_with fail
                          refine HLv.out.mono ?_
                          rintro e w9 ⟨rfl, k9⟩
                          have K9 := hide (HKc.out.trans k9)
                          clear k9
                          go_wp2_with fail
                          go_ret
                          exact ⟨rfl, K9.out⟩
                      | false =>
                        by_cases h9 : k < 9
                        case pos =>
                          obtain rfl := L3 h9
                          have d5 : decide ((k : Int) < 9) = true := by simp; omega
                          have d6 : decide (k < 9) = true := by simp; omega
                          clear L1 L2 L3 L4 h10 h9
                          go_wp2_with fail
                          refine HLv.out.mono ?_
                          rintro e w9 ⟨rfl, k9⟩
                          have K9 := hide (HKc.out.trans k9)
                          clear k9
                          go_wp2_with fail
                          go_ret
                          exact ⟨rfl, K9.out⟩
                        case neg =>
                          obtain ⟨rfl, rfl, rfl⟩ := L4 h9
                          have d5 : decide ((k : Int) < 9) = false := by simp; omega
                          have d6 : decide (k < 9) = false := by simp; omega
                          clear L1 L2 L3 L4 h10 h9
                          go_wp2_with fail
                          refine HLv.out.mono ?_
                          rintro e w9 ⟨rfl, k9⟩
                          have K9 := hide (HKc.out.trans k9)
                          clear k9
                          go_wp2_with fail
                          go_ret
                          exact ⟨rfl, K9.out⟩
end Go.Proofs.YtaioaojfdngfdaaGreatDoor
