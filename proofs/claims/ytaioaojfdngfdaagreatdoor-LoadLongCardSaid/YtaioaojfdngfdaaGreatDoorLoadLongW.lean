/- The law LoadLong, walked. Conditions: those of each theorem. -/
import Derived.Test.YtaioaojfdngfdaaGreatDoorLoadLongP
import Derived.Test.YtaioaojfdngfdaaGreatDoorNb47
import Derived.BigRegion
import Derived.Lib.SlBytesConst
import Derived.ArgAppend
namespace Go.Proofs.YtaioaojfdngfdaaGreatDoor
open Go.RowKit
set_option linter.unusedVariables false
set_option linter.unusedSimpArgs false
theorem ab_even (q : Nat) (h : q % 2 = 0) : (⟨#[97, 98]⟩ : ByteArray).extract 0 1 = bs [if q % 2 = 0 then 97 else 98] := by rw [if_pos h]; rfl
theorem ab_odd (q : Nat) (h : ¬ q % 2 = 0) : (⟨#[97, 98]⟩ : ByteArray).extract 1 2 = bs [if q % 2 = 0 then 97 else 98] := by rw [if_neg h]; rfl
theorem load17_c (T : List UInt8) (w : World) (hs : T.length ≤ 900000) (hv : Vars w) : Calls Tryz.prog 21 #[.string (bs T)] w fun e w' => (∃ (A : Option Addr) (c : Nat) (S : List ScrV), e = .returned (.tuple #[.slice A S.length c, .int .i64 (loadM T).2]) ∧ S.length = (loadM T).1.length ∧ Rd w' NoBlk A (flat encScr S) ∧ S.map (·.m) = (loadM T).1) ∧ Only NoBlk w w' :=
  (Load_c (bs T) w hs hv).mono fun e w' ⟨⟨A, c, S, he, hS, hr, _⟩, k⟩ => ⟨⟨A, c, S, he, by have h := congrArg List.length hS; rw [List.length_map] at h; exact h, hr.mono (fun _ h => h.elim), hS⟩, k⟩
theorem cell_new (w : World) (C : Array Value) (e : TypeId) (fr : Nat × Nat) (j : Nat) : (w.alloc (.cells C e fr)).cell? ⟨w.heap.size, j, none⟩ = C[j]? := by
  have h : (w.alloc (.cells C e fr)).heap[w.heap.size]? = some (.cells C e fr) := heap_alloc_new w _
  unfold World.cell?
  rw [h]
  rfl
theorem ownsRow_base {w : World} {b1 b2 size n : Nat} {e : TypeId} {v : Value} {xs : List Value} (h : w.ownsRow b1 e size v n xs) (hb : b2 ≤ b1) : w.ownsRow b2 e size v n xs := by
  refine ⟨h.1, ?_⟩
  rcases h.2 with h | ⟨g, cap, cur, h1, h2, h3⟩
  · exact Or.inl h
  · exact Or.inr ⟨g, cap, cur, h1, Nat.le_trans hb h2, h3⟩
set_option maxRecDepth 100000 in
set_option maxHeartbeats 25600000 in
theorem LoadLong_walk (n : Int) (hn : 0 ≤ n ∧ n ≤ 255) (w : World) (hv : Vars w) : Calls Tryz.prog 7 #[.int .u8 n] w fun e w' => e = .returned (.bool true) ∧ Only NoBlk w w' := by
  have HV := hide hv
  obtain ⟨k, hk⟩ : ∃ k : Nat, (k : Int) = n % 12 := ⟨(n % 12).toNat, by omega⟩
  have hk12 : k < 12 := by omega
  have hm : n.tmod 12 = (k : Int) := by rw [Int.tmod_eq_emod_of_nonneg hn.1]; omega
  have wk0 : IntKind.u8.wrap (k : Int) = (k : Int) := IntWalk.u8_in _ (by omega)
  have wk1 : IntKind.i64.wrap (k : Int) = (k : Int) := IntWalk.i64_in _ (by omega)
  have wk2 : IntKind.i64.wrap (60 + (k : Int)) = 60 + (k : Int) := IntWalk.i64_in _ (by omega)
  have wk3 : IntKind.i64.wrap (39994 + (k : Int)) = 39994 + (k : Int) := IntWalk.i64_in _ (by omega)
  obtain ⟨i0, hi, hz0, hz1, hz2⟩ := info_parts Tryz.infoU8
  have kc := fun (w : World) (C : Array Value) (n c : Nat) => Lib.run_convert_bytes_const (P := Tryz.prog) w 47 5 C n c Tryz.underlying47 Tryz.underlying5
  have HL1 := hide (fun (X : World) (q : Only NoBlk w X) => load17_c (manyT (60 + k)) X (by rw [manyT_len]; omega) (HV.out.only q))
  have HL2 := hide (fun (X : World) (q : Only NoBlk w X) => load17_c (hashT (39993 + k)) X (by rw [hash_len]; omega) (HV.out.only q))
  have HLg := hide (long17_q k hk12)
  have HLen := hide (load_len (manyT (60 + k)))
  obtain ⟨M1, hM1⟩ : ∃ M, M = loadM (manyT (60 + k)) := ⟨_, rfl⟩
  obtain ⟨M2, hM2⟩ : ∃ M, M = loadM (hashT (39993 + k)) := ⟨_, rfl⟩
  rw [← hM1] at HL1 HLg HLen
  rw [← hM2] at HL2 HLg
  obtain ⟨Q1, E1⟩ := M1
  obtain ⟨Q2, E2⟩ := M2
  clear hM1 hM2
  clear hv hk
  go_enter Tryz.func7, Tryz.ntmps7
  go_wp2_with fail
  generalize hX : World.alloc w _ = X
  have HX := hide (show Only NoBlk w X by rw [← hX]; exact (Only.refl _ w).alloc _)
  have HO := hide (show X.cell? ⟨w.heap.size, 0, none⟩ = some (.int .u8 35) by rw [← hX]; exact cell_new w _ _ _ 0)
  obtain ⟨B, hB⟩ : ∃ B, B = w.heap.size := ⟨_, rfl⟩
  have HBw := hide hB
  rw [← hB] at HO ⊢
  clear hX kc hB
  go_loopw [4, 6] (fun v i wr => ∃ (q : Nat) (T : ByteArray), q ≤ 60 + k ∧ v = .string T ∧ i = .int .i64 q ∧ Hid (T = bs (manyT q)) ∧ Hid (wr = X)) (fun _ i _ => 60 + k - (intOf i).toNat)
  case atStart => exact ⟨0, _, by omega, rfl, rfl, hide (by rfl), hide rfl⟩
  case round =>
    obtain ⟨q, T, hq, rfl, rfl, HT, HW⟩ := hrel
    have hts : T.size = q * 13 := by rw [HT.out]; exact manyT_len q
    have w1 : IntKind.i64.wrap ((q : Int) + 1) = (q : Int) + 1 := IntWalk.i64_in _ (by omega)
    rw [HW.out]
    by_cases hlt : q < 60 + k
    case pos =>
      have e1 : decide ((q : Int) < 60 + (k : Int)) = true := by simp; omega
      have e2 : (q : Int) < 60 + (k : Int) := by omega
      have t0 : (⟨#[115, 99, 114, 105, 112, 116, 32]⟩ : ByteArray).size = 7 := rfl
      have t1 : (⟨#[32, 57, 32, 48, 10]⟩ : ByteArray).size = 5 := rfl
      have z0 : T.size + (⟨#[115, 99, 114, 105, 112, 116, 32]⟩ : ByteArray).size ≤ 9223372036854775807 := by omega
      have s0 : (T ++ (⟨#[115, 99, 114, 105, 112, 116, 32]⟩ : ByteArray)).size = q * 13 + 7 := by rw [ByteArray.size_append, hts, t0]
      clear hlt
      by_cases hpar : q % 2 = 0
      case pos =>
        have r0 : (q : Int) % 2 = 0 := by omega
        have w4 : IntKind.i64.wrap 0 = 0 := IntWalk.i64_in _ (by omega)
        have w5 : IntKind.i64.wrap (0 + 1) = 1 := IntWalk.i64_in _ (by omega)
        have HT2 := hide (show T ++ (⟨#[115, 99, 114, 105, 112, 116, 32]⟩ : ByteArray) ++ (⟨#[97, 98]⟩ : ByteArray).extract 0 1 ++ (⟨#[32, 57, 32, 48, 10]⟩ : ByteArray) = bs (manyT (q + 1)) by
          rw [ab_even q hpar, HT.out]
          show bs (manyT q) ++ bs [115, 99, 114, 105, 112, 116, 32] ++ bs [_] ++ bs [32, 57, 32, 48, 10] = _
          rw [bs_append, bs_append, bs_append]
          show bs (manyT q ++ _ ++ _ ++ _) = bs (manyT q ++ scrT q)
          rw [List.append_assoc, List.append_assoc]
          rfl)
        have z1 : (T ++ (⟨#[115, 99, 114, 105, 112, 116, 32]⟩ : ByteArray)).size + ((⟨#[97, 98]⟩ : ByteArray).extract 0 1).size ≤ 9223372036854775807 := by rw [s0]; show q * 13 + 7 + 1 ≤ _; omega
        have z2 : (T ++ (⟨#[115, 99, 114, 105, 112, 116, 32]⟩ : ByteArray) ++ (⟨#[97, 98]⟩ : ByteArray).extract 0 1).size + (⟨#[32, 57, 32, 48, 10]⟩ : ByteArray).size ≤ 9223372036854775807 := by rw [ByteArray.size_append, s0, t1]; show q * 13 + 7 + 1 + 5 ≤ _; omega
        clear hpar t0 t1 hts s0
        go_wp2_with fail
        go_roundw
        case rel => exact ⟨q + 1, _, by omega, rfl, by go_num, HT2, hide trivial⟩
        case measure => simp [intOf] <;> omega
      case neg =>
        have r0 : (q : Int) % 2 = 1 := by omega
        have w4 : IntKind.i64.wrap 1 = 1 := IntWalk.i64_in _ (by omega)
        have w5 : IntKind.i64.wrap (1 + 1) = 2 := IntWalk.i64_in _ (by omega)
        have HT2 := hide (show T ++ (⟨#[115, 99, 114, 105, 112, 116, 32]⟩ : ByteArray) ++ (⟨#[97, 98]⟩ : ByteArray).extract 1 2 ++ (⟨#[32, 57, 32, 48, 10]⟩ : ByteArray) = bs (manyT (q + 1)) by
          rw [ab_odd q hpar, HT.out]
          show bs (manyT q) ++ bs [115, 99, 114, 105, 112, 116, 32] ++ bs [_] ++ bs [32, 57, 32, 48, 10] = _
          rw [bs_append, bs_append, bs_append]
          show bs (manyT q ++ _ ++ _ ++ _) = bs (manyT q ++ scrT q)
          rw [List.append_assoc, List.append_assoc]
          rfl)
        have z1 : (T ++ (⟨#[115, 99, 114, 105, 112, 116, 32]⟩ : ByteArray)).size + ((⟨#[97, 98]⟩ : ByteArray).extract 1 2).size ≤ 9223372036854775807 := by rw [s0]; show q * 13 + 7 + 1 ≤ _; omega
        have z2 : (T ++ (⟨#[115, 99, 114, 105, 112, 116, 32]⟩ : ByteArray) ++ (⟨#[97, 98]⟩ : ByteArray).extract 1 2).size + (⟨#[32, 57, 32, 48, 10]⟩ : ByteArray).size ≤ 9223372036854775807 := by rw [ByteArray.size_append, s0, t1]; show q * 13 + 7 + 1 + 5 ≤ _; omega
        clear hpar t0 t1 hts s0
        go_wp2_with fail
        go_roundw
        case rel => exact ⟨q + 1, _, by omega, rfl, by go_num, HT2, hide trivial⟩
        case measure => simp [intOf] <;> omega
    case neg =>
      have e1 : decide ((q : Int) < 60 + (k : Int)) = false := by simp; omega
      have e2 : ¬ (q : Int) < 60 + (k : Int) := by omega
      obtain rfl : q = 60 + k := by omega
      have HT2 := hide HT.out
      clear HT HW hts w1 hlt hq
      go_wp2_with fail
      go_loopw [5] (fun v wr => ∃ (N : Nat) (A : Option Addr) (c : Nat), N ≤ 39993 + k ∧ v = .slice A (N + 1) c ∧ Hid (wr.ownsRow B 5 1 (.slice A (N + 1) c) (N + 1) (bys (hashT N)) ∨ (N = 0 ∧ A = some ⟨B, 0, none⟩ ∧ c = 1 ∧ wr.cell? ⟨B, 0, none⟩ = some (.int .u8 35))) ∧ Hid (Only NoBlk w wr)) (fun v _ => match v with | .slice _ N _ => 39995 + k - N | _ => 0)
      case atStart => exact ⟨0, _, 1, by omega, rfl, hide (Or.inr ⟨rfl, rfl, rfl, HO.out⟩), HX⟩
      case round =>
        clear HO HX
        obtain ⟨N, A, c, hN, rfl, HR, HK⟩ := hrel
        have hts := hash_len N
        by_cases hlt : N + 1 < 39994 + k
        case pos =>
          have e1 : decide (((N + 1 : Nat) : Int) < 39994 + (k : Int)) = true := by simp; omega
          have e1' : decide ((N : Int) + 1 < 39994 + (k : Int)) = true := by simp; omega
          have e2 : (N : Int) + 1 < 39994 + (k : Int) := by omega
          have hXr := hide (show Rd (wr.alloc (.cells #[.int .u8 120] 5)) NoBlk (some ⟨wr.heap.size, 0, none⟩) [.int .u8 120] from rd_blkN (Blk.new _ _ _) (fun h => h))
          have HKx := hide (HK.out.alloc (.cells #[.int .u8 120] 5))
          have hnx : bys (hashT N) ++ [.int .u8 120] = bys (hashT (N + 1)) := by rw [← hash_next, bys_snoc]; rfl
          have HNx := hide hnx
          clear hnx hts hlt
          rcases HR.out with ho | ⟨rfl, rfl, rfl, hc⟩
          · have HOx := hide (ho.alloc (.cells #[.int .u8 120] 5))
            have hBs : B ≤ (wr.alloc (.cells #[.int .u8 120] 5)).heap.size := by have := HBw.out; have := HK.out.size; simp; omega
            clear ho HR
            go_wp2_with (at_builtin; refine wpList_append_rd _ rfl (.tmp 37) (.tmp 38) _ rfl B 5 i0 (.int .u8 0) 1 1 Tryz.underlying47 hi hz0 hz1 hz2 rfl (by omega) _ (N + 1) (bys (hashT N)) rfl HOx.out NoBlk (some ⟨wr.heap.size, 0, none⟩) 1 1 [.int .u8 120] rfl hXr.out rfl (by intro u hu; simp at hu; subst hu; rfl) (by simp only [maxLen]; omega) (by omega) hBs ?_; intro v5 w5 hown5 hgr5 hv5; obtain ⟨A5, c5, rfl, _⟩ := own_cap hown5; have Own5 := hide hown5; have Gr5 := hide hgr5; clear hown5 hgr5 hv5)
            have HK5 := hide (HKx.out.grown Gr5.out (fun j hj => Or.inr (by have h1 := own_ge HOx.out j hj; have := HBw.out; omega)))
            have HO5 := hide (show w5.ownsRow B 5 1 (.slice A5 (N + 1 + 1) c5) (N + 1 + 1) (bys (hashT (N + 1))) ∨ (N + 1 = 0 ∧ A5 = some ⟨B, 0, none⟩ ∧ c5 = 1 ∧ w5.cell? ⟨B, 0, none⟩ = some (.int .u8 35)) from Or.inl (by rw [← HNx.out]; exact Own5.out))
            clear HOx hXr HKx Own5 Gr5 HNx
            go_roundw
            case rel => exact ⟨N + 1, A5, c5, by omega, rfl, HO5, HK5⟩
            case measure => simp <;> omega
          · have hc2 := okeep ((Only.refl NoBlk wr).alloc (.cells #[.int .u8 120] 5)) (fun h => h) hc
            have hc3 : (wr.alloc (.cells #[.int .u8 120] 5)).cell? ⟨wr.heap.size, 0, none⟩ = some (.int .u8 120) := (Blk.new wr 5 #[.int .u8 120]).cell 0
            have hBw2 : B ≤ (wr.alloc (.cells #[.int .u8 120] 5)).heap.size := by have := HBw.out; have := HK.out.size; simp; omega
            clear hc HR
            go_wp2_with (at_builtin; refine wpList_append_grows _ rfl (.tmp 37) (.tmp 38) _ rfl 5 i0 (.int .u8 0) 1 1 Tryz.underlying47 hi hz0 hz1 hz2 rfl (by omega) (some ⟨B, 0, none⟩) 1 1 [.int .u8 35] rfl (fun h => by cases h) rfl (fun b hb j u hj => by injection hb with hb; subst hb; cases j with | zero => (injection hj with hj; subst hj; exact hc2) | succ j => (simp at hj)) ⟨wr.heap.size, 0, none⟩ 1 1 [.int .u8 120] rfl rfl (fun j u hj => by cases j with | zero => (injection hj with hj; subst hj; exact hc3) | succ j => (simp at hj)) (by intro u hu; simp at hu; subst hu; rfl) (by omega) (by simp only [maxLen]; omega) (by omega) ?_; intro v5 w5 hown5 hgr5; have hown6 := ownsRow_base hown5 hBw2; obtain ⟨A5, c5, rfl, _⟩ := own_cap hown6; have Own5 := hide hown6; have Gr5 := hide hgr5; clear hown5 hgr5 hown6)
            have HK5 := hide (HKx.out.grown Gr5.out (fun j hj => by cases hj))
            have HO5 := hide (show w5.ownsRow B 5 1 (.slice A5 (0 + 1 + 1) c5) (0 + 1 + 1) (bys (hashT (0 + 1))) ∨ (0 + 1 = 0 ∧ A5 = some ⟨B, 0, none⟩ ∧ c5 = 1 ∧ w5.cell? ⟨B, 0, none⟩ = some (.int .u8 35)) from Or.inl (by rw [← HNx.out]; exact Own5.out))
            clear hXr HKx Own5 Gr5 HNx hc2 hc3
            go_roundw
            case rel => exact ⟨0 + 1, A5, c5, by omega, rfl, HO5, HK5⟩
            case measure => simp <;> omega
        case neg =>
          have e1 : decide (((N + 1 : Nat) : Int) < 39994 + (k : Int)) = false := by simp; omega
          have e1' : decide ((N : Int) + 1 < 39994 + (k : Int)) = false := by simp; omega
          have e2 : ¬ (N : Int) + 1 < 39994 + (k : Int) := by omega
          obtain rfl : N = 39993 + k := by omega
          have ho : wr.ownsRow B 5 1 (.slice A (39993 + k + 1) c) (39993 + k + 1) (bys (hashT (39993 + k))) := by
            rcases HR.out with h | ⟨h, _⟩
            · exact h
            · omega
          have HOw := hide ho
          clear HR ho hlt hts hN
          have HCv := hide (fun (X : World) (q : Only NoBlk wr X) => conv_own (own_only HOw.out q (fun _ _ h => h.elim)))
          have HLv := hide (fun (X : World) (q : Only NoBlk w X) => lives17_c X (HV.out.only q))
          obtain ⟨g1, g2, g3, g4, g5⟩ := HLg.out
          rw [show T = bs (manyT (60 + k)) from HT2.out]
          clear HLg HT2
          go_wp2_with fail
          refine (HL1.out wr HK.out).mono ?_
          rintro e w1 ⟨⟨A1, c1, S1, rfl, hl1, hr1, hm1⟩, k1⟩
          have HR1 := hide hr1
          have HM1 := hide hm1
          have K1 := hide k1
          have hcv := HCv.out w1 k1
          clear hr1 hm1 k1 HL1 HCv
          go_wp2_with fail
          refine (HL2.out w1 (HK.out.trans K1.out)).mono ?_
          rintro e w2 ⟨⟨A2, c2, S2, rfl, hl2, _, _⟩, k2⟩
          have HR2 := hide (HR1.out.only k2 (fun _ h => h))
          have K2 := hide (HK.out.trans (K1.out.trans k2))
          clear k2 hcv HL2 HR1 K1 HOw
          have h20 : S2.length = 0 := hl2.trans g3
          rw [h20]
          clear hl2 g3 h20
          obtain ⟨b7, hb7, hb7'⟩ : ∃ b : Bool, (E2 == 0) = b ∧ decide ((k : Int) < 7) = b ∧ (E2 = 0 ∨ E2 = 4) := by
            by_cases h7 : k < 7
            · exact ⟨true, by rw [g4 h7]; rfl, by simp; omega, Or.inl (g4 h7)⟩
            · exact ⟨false, by rw [g5 h7]; rfl, by simp; omega, Or.inr (g5 h7)⟩
          obtain ⟨hb8, hE2⟩ := hb7'
          have HE2 := hide hE2
          clear g4 g5 hE2
          by_cases h4 : 4 < k
          case pos =>
            obtain ⟨r1, r2⟩ := g1 h4
            have h10 : S1.length = 0 := hl1.trans r2
            have d1 : decide ((4 : Int) < (k : Int)) = true := by simp; omega
            have d2 : decide (4 < k) = true := by simp; omega
            have d3 : decide ((k : Int) ≤ 4) = false := by simp; omega
            have d4 : decide (k ≤ 4) = false := by simp; omega
            subst r1
            rw [r2]
            clear g1 g2 hl1 r2 h10 h4
            rcases HE2.out with rfl | rfl
            · obtain rfl : b7 = true := hb7.symm
              go_wp2_with fail
              refine (HLv.out w2 K2.out).mono ?_
              rintro e w9 ⟨rfl, k9⟩
              have K9 := hide (K2.out.trans k9)
              clear k9
              go_wp2_with fail
              go_ret
              exact ⟨rfl, K9.out⟩
            · obtain rfl : b7 = false := hb7.symm
              go_wp2_with fail
              refine (HLv.out w2 K2.out).mono ?_
              rintro e w9 ⟨rfl, k9⟩
              have K9 := hide (K2.out.trans k9)
              clear k9
              go_wp2_with fail
              go_ret
              exact ⟨rfl, K9.out⟩
          case neg =>
            obtain ⟨r1, r2⟩ := g2 h4
            have HRg := hide (Right_c NoBlk A1 c1 S1 w2 HR2.out (by
              have h9 : S1.length ≤ 64 := by rw [hl1]; exact HLen.out
              omega))
            rw [HM1.out, r2, hl1] at HRg
            have d1 : decide ((4 : Int) < (k : Int)) = false := by simp; omega
            have d2 : decide (4 < k) = false := by simp; omega
            have d3 : decide ((k : Int) ≤ 4) = true := by simp; omega
            have d4 : decide (k ≤ 4) = true := by simp; omega
            subst r1
            clear g1 g2 hl1 r2 h4
            go_wp2_with fail
            refine HRg.out.mono ?_
            rintro e w3 ⟨rfl, b3⟩
            replace K2 := hide (K2.out.trans (Only.of_below b3 NoBlk))
            clear b3 HRg HR2
            rcases HE2.out with rfl | rfl
            · obtain rfl : b7 = true := hb7.symm
              go_wp2_with fail
              refine (HLv.out w3 K2.out).mono ?_
              rintro e w9 ⟨rfl, k9⟩
              have K9 := hide (K2.out.trans k9)
              clear k9
              go_wp2_with fail
              go_ret
              exact ⟨rfl, K9.out⟩
            · obtain rfl : b7 = false := hb7.symm
              go_wp2_with fail
              refine (HLv.out w3 K2.out).mono ?_
              rintro e w9 ⟨rfl, k9⟩
              have K9 := hide (K2.out.trans k9)
              clear k9
              go_wp2_with fail
              go_ret
              exact ⟨rfl, K9.out⟩
end Go.Proofs.YtaioaojfdngfdaaGreatDoor
