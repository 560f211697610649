/- The walk of ShowWrites. Conditions: those of each theorem. -/
import Derived.Test.YtdmdohjdmnmabaaGreatDoorQh37
import Derived.Test.YtdmdohjdmnmabaaGreatDoorQh42
import Derived.Test.YtdmdohjdmnmabaaGreatDoorQh44
import Derived.Test.YtdmdohjdmnmabaaGreatDoorQh31
import Derived.Test.YtdmdohjdmnmabaaGreatDoorQh50
namespace Go.Proofs.YtdmdohjdmnmabaaGreatDoor
open Go.RowKit
set_option linter.unusedVariables false
set_option linter.unusedSimpArgs false
theorem OpsRd.monoS {w : World} {M M' : Nat → Prop} {A : Option Addr} {L : List OpV} (h : OpsRd w M A L) (hm : ∀ b, M' b → M b) : OpsRd w M' A L := ⟨h.1.mono hm, fun v hv => (h.2 v hv).mono hm⟩
theorem list_str (X : List UInt8) : (⟨X.toArray⟩ : ByteArray) = bs X := rfl
set_option maxRecDepth 100000 in
set_option maxHeartbeats 25600000 in
theorem ShowWrites_walk (s : ByteArray) (d j : Int) (A : Option Addr) (L : List OpV) (c : Nat) (a : Int) (w : World) (hr : OpsRd w NoBlk A L) (hn : L.length ≤ maxLen) (hz : ∀ v ∈ L, OpSz v) (ha : InI a) (ht : Tab w) :
 Calls Tryz.prog 3 #[.agg #[.string s, .int .i64 d, .int .i64 j, .slice A L.length c], .int .i64 a] w fun e w' => e = .returned (.bool true) ∧ Only NoBlk w w' := by
 obtain ⟨g, hg⟩ : ∃ g, g = w.heap.size := ⟨_, rfl⟩
 obtain ⟨W, hW⟩ : ∃ W, W = w.alloc (.cells #[.string s, .int .i64 d, .int .i64 j, .slice A L.length c] 24) := ⟨_, rfl⟩
 have HB := hide (show Below g w W by rw [hW, hg]; exact below_alloc _ _)
 have HP := hide (show Blk W g 24 #[.string s, .int .i64 d, .int .i64 j, .slice A L.length c] by rw [hW, hg]; exact Blk.new w 24 _)
 have HF1 := hide (few_c s d j A L c 10 W (hr.only (Only.of_below (by rw [← hg]; exact HB.out) NoBlk) (fun _ h => h.elim)) hn hz (by omega))
 have HFz := hide (fun (L' : List OpV) (h : L'.map (·.o) = fewOps L 10) => few_sz h hz)
 have HFl := hide (fun (L' : List OpV) (h : L'.map (·.o) = fewOps L 10) => Nat.le_trans (few_len h) hn)
 have HWs := hide (show W.heap.size = g + 1 by rw [hW, hg]; simp)
 have HOf := hide (show ∀ w', Below g w w' → Only NoBlk w w' from fun w' k => Only.of_below (by rw [← hg]; exact k) NoBlk)
 obtain ⟨n, hnl⟩ : ∃ n, n = L.length := ⟨_, rfl⟩
 rw [← hnl] at HP HF1 hW ⊢
 have HW := hide hW
 have Hg := hide hg
 have HTb := hide (fun (w' : World) (k : Only NoBlk w w') => ht.only k)
 have HAi := hide ha
 clear hr hn hz hW hg hnl ht ha
 go_enter Tryz.func3, Tryz.ntmps3
 go_upto_region 1 with fail
 change Code.wp _ _ _ _ (w.alloc (.cells #[.string s, .int .i64 d, .int .i64 j, .slice A n c] 24))
 rw [← HW.out, ← Hg.out]
 obtain ⟨⟨g0, g1, g2, g3⟩, _⟩ := HP.out.four
 go_wp2_with fail
 refine HF1.out.mono ?_
 rintro e w2 ⟨⟨B, L1, c1, rfl, hm1, hr1⟩, hb1⟩
 have HM1 := hide hm1
 have HR1 := hide hr1
 have HB2 := hide (HB.out.trans (hb1.mono (by have := HB.out.size; have := Hg.out; omega)))
 have HP2 := hide (HP.out.below hb1)
 have HLz := hide (HFz.out L1 hm1)
 have HLl := hide (HFl.out L1 hm1)
 clear hm1 hr1 hb1 g0 g1 g2 g3
 obtain ⟨⟨g0, g1, g2, g3⟩, f0, f1, f2, f3⟩ := HP2.out.four
 obtain ⟨s1, hs1⟩ : ∃ s1, s1 = cutS s 20 := ⟨_, rfl⟩
 have HS1 := hide hs1
 rw [← hs1]
 obtain ⟨m, hm⟩ : ∃ m, m = L1.length := ⟨_, rfl⟩
 have Hm := hide hm
 rw [← hm]
 clear hs1 hm
 go_upto_region 2 with fail
 rw [put4]
 obtain ⟨W3, hW3⟩ : ∃ W3, W3 = putFrom w2 g 0 [.string s1, .int .i64 d, .int .i64 j, .slice B m c1] := ⟨_, rfl⟩
 have HB3 := hide (show Below g w W3 by rw [hW3]; exact below_put [.string s1, .int .i64 d, .int .i64 j, .slice B m c1] 0 HB2.out (Nat.le_refl _))
 have HP3 := hide (show Blk W3 g 24 #[.string s1, .int .i64 d, .int .i64 j, .slice B m c1] by rw [hW3]; exact HP2.out.put [.string s1, .int .i64 d, .int .i64 j, .slice B m c1] rfl)
 have HR3 := hide (show OpsRd W3 NoBlk B L1 by rw [hW3]; exact (HR1.out.only (only_put [.string s1, .int .i64 d, .int .i64 j, .slice B m c1] 0 w2 g) (fun k hk => by have : k = g := hk; have := HWs.out; show k < W.heap.size; omega)).monoS (fun _ h => h.elim))
 rw [← hW3]
 clear hW3 g0 g1 g2 g3 f0 f1 f2 f3
 have HN3 := hide (HOf.out _ HB3.out)
 have hs20 : s1.size ≤ 20 := by rw [HS1.out, cutS_size]; omega
 have HFw := hide (fun (w' : World) (k : Only NoBlk W3 w') => few_c s1 d j B L1 c1 10 w' (HR3.out.only k (fun _ h => h)) HLl.out HLz.out (by omega))
 have HEq := hide (fun (L2 : List OpV) (hm2 : L2.map (·.o) = fewOps L1 10) => show progM (cutS s1 20) d j L2 = progM s1 d j L1 by
  unfold progM
  rw [hm2, fewOps_idem HM1.out, HS1.out, cutS_twice])
 obtain ⟨P, hP⟩ : ∃ P, P = progM s1 d j L1 := ⟨_, rfl⟩
 have HPw := hide (fun (B2 : Option Addr) (c2 : Nat) (L2 : List OpV) (w' : World) (h2 : OpsRd w' NoBlk B2 L2) (hm2 : L2.map (·.o) = fewOps L1 10) (k : Only NoBlk W3 w') => show Calls Tryz.prog 8 #[.agg #[.string (cutS s1 20), .int .i64 d, .int .i64 j, .slice B2 L2.length c2]] w' fun e w9 => e = .returned (.tuple #[.string ⟨(if goodM P = true then progT P else []).toArray⟩, .int .i64 (if goodM P = true then 0 else 2)]) ∧ Only NoBlk w' w9 from by
  rw [hP, ← HEq.out L2 hm2]
  exact sProg_c (cutS s1 20) d j B2 c2 L2 w' h2 (Nat.le_trans (few_len hm2) HLl.out) (by rw [cutS_size]; omega) (few_sz hm2 HLz.out) (HTb.out _ (HN3.out.trans k)))
 have HOw := hide (fun (B2 : Option Addr) (c2 : Nat) (L2 : List OpV) (w' : World) (h2 : OpsRd w' NoBlk B2 L2) (hm2 : L2.map (·.o) = fewOps L1 10) (k : Only NoBlk W3 w') => show Calls Tryz.prog 9 #[.agg #[.string (cutS s1 20), .int .i64 d, .int .i64 j, .slice B2 L2.length c2], .int .i64 a] w' fun e w9 => e = .returned (.tuple #[.string ⟨(showOpM P a).1.toArray⟩, .int .i64 (showOpM P a).2]) ∧ Only NoBlk w' w9 from by
  rw [hP, ← HEq.out L2 hm2]
  exact sOpAt_c (cutS s1 20) d j B2 c2 L2 a w' h2 (Nat.le_trans (few_len hm2) HLl.out) (by rw [cutS_size]; omega) (few_sz hm2 HLz.out) (HTb.out _ (HN3.out.trans k)))
 have HLb := hide (fun (w' : World) (k : Only NoBlk W3 w') => show Calls Tryz.prog 10 #[.int .i64 a] w' fun e w9 => e = .returned (.string (bs (labelT a))) ∧ Below w'.heap.size w' w9 from Label_c a w' HAi.out (HTb.out _ (HN3.out.trans k)))
 have HRl := hide (fun (w' : World) => refLabel_c a w' HAi.out)
 have HRg := hide (fun (w' : World) (k : Only NoBlk W3 w') => refGood_c s1 d j B c1 L1 w' (HR3.out.only k (fun _ h => h)) HLl.out (by omega) HLz.out)
 have HLv := hide (fun (w' : World) (k : Only NoBlk W3 w') => lives15_c w' (HTb.out _ (HN3.out.trans k)))
 rw [← hP, ← Hm.out] at HRg
 rw [← Hm.out] at HFw
 have HPo := hide (show P.ops = L1.map (·.o) by rw [hP]; rfl)
 have HPe := hide hP
 obtain ⟨LT, hLT⟩ : ∃ LT, LT = labelT a := ⟨_, rfl⟩
 rw [← hLT] at HLb HRl
 clear hLT hP
 obtain ⟨s2, hs2⟩ : ∃ s2, s2 = cutS s1 20 := ⟨_, rfl⟩
 rw [← hs2] at HFw HPw HOw
 clear hs2
 cases hgd : goodM P with
 | false =>
  have Hgd := hide hgd
  have HM := hide (show showOpM P a = ([], 2) by unfold showOpM; rw [if_pos hgd])
  rw [hgd] at HRg
  have HO0 := hide (Only.refl NoBlk W3)
  clear hgd
  obtain ⟨⟨g0, g1, g2, g3⟩, _⟩ := (HP3.out.only HO0.out (fun h => h)).four
  go_wp2_with fail
  refine (HFw.out _ HO0.out).mono ?_
  rintro e V1 ⟨⟨B1, L1, c1, rfl, hm9, hr9⟩, hb9⟩
  have HO1 := hide (HO0.out.trans (Only.of_below hb9 NoBlk))
  have HNq := hide (HPw.out B1 c1 L1 V1 (hr9.monoS (fun _ h => h.elim)) hm9 HO1.out)
  rw [Hgd.out] at HNq
  clear hm9 hr9 hb9 g0 g1 g2 g3
  obtain ⟨m1, hm1⟩ : ∃ m9, m9 = L1.length := ⟨_, rfl⟩
  rw [← hm1] at HNq ⊢
  clear hm1
  go_wp2_with fail
  refine HNq.out.mono ?_
  rintro e V2 ⟨rfl, ho9⟩
  have HO2 := hide (HO1.out.trans ho9)
  clear ho9 HNq
  obtain ⟨⟨g0, g1, g2, g3⟩, _⟩ := (HP3.out.only HO2.out (fun h => h)).four
  go_wp2_with fail
  refine (HFw.out _ HO2.out).mono ?_
  rintro e V3 ⟨⟨B3, L3, c3, rfl, hm9, hr9⟩, hb9⟩
  have HO3 := hide (HO2.out.trans (Only.of_below hb9 NoBlk))
  have HNq := hide (HOw.out B3 c3 L3 V3 (hr9.monoS (fun _ h => h.elim)) hm9 HO3.out)
  rw [HM.out] at HNq
  clear hm9 hr9 hb9 g0 g1 g2 g3
  obtain ⟨m3, hm3⟩ : ∃ m9, m9 = L3.length := ⟨_, rfl⟩
  rw [← hm3] at HNq ⊢
  clear hm3
  go_wp2_with fail
  refine HNq.out.mono ?_
  rintro e V4 ⟨rfl, ho9⟩
  have HO4 := hide (HO3.out.trans ho9)
  clear ho9 HNq
  go_wp2_with fail
  refine (HLb.out _ HO4.out).mono ?_
  rintro e V5 ⟨rfl, hb9⟩
  have HO5 := hide (HO4.out.trans (Only.of_below hb9 NoBlk))
  clear hb9
  go_wp2_with fail
  refine (HRl.out _).mono ?_
  rintro e wq ⟨rfl, hwq⟩
  rw [hwq]
  clear hwq
  obtain ⟨⟨g0, g1, g2, g3⟩, _⟩ := (HP3.out.only HO5.out (fun h => h)).four
  go_wp2_with fail
  refine (HRg.out _ HO5.out).mono ?_
  rintro e V6 ⟨rfl, hb9⟩
  have HO6 := hide (HO5.out.trans (Only.of_below hb9 NoBlk))
  clear hb9 g0 g1 g2 g3
  go_wp2_with fail
  refine (HLv.out _ HO6.out).mono ?_
  rintro e V99 ⟨rfl, ho9⟩
  have HO99 := hide (HN3.out.trans (HO6.out.trans ho9))
  clear ho9
  go_wp2_with fail
  go_ret
  exact ⟨rfl, HO99.out⟩
 | true =>
  have Hgd := hide hgd
  have HRp := hide (fun (w' : World) (k : Only NoBlk W3 w') => refProgS_c s1 d j B c1 L1 w' (HR3.out.only k (fun _ h => h)) (by rw [← HPe.out]; exact Hgd.out))
  rw [← HPe.out, ← Hm.out, ← progT_doc hgd] at HRp
  have HGo := hide (show ∀ q, q < m → opT (opAt L1 q).o = opD (opAt L1 q).o ∧ OpW (opAt L1 q).o from fun q hq => by
   have hm : (opAt L1 q).o ∈ P.ops := by rw [HPo.out]; exact List.mem_map.2 ⟨_, opAt_mem (by rw [← Hm.out]; exact hq), rfl⟩
   exact ⟨opT_doc (good_op hgd _ hm), ops_good hgd _ hm⟩)
  rw [hgd] at HRg
  obtain ⟨X, hX⟩ : ∃ X, X = progT P := ⟨_, rfl⟩
  rw [← hX] at HRp HPw
  have hPl : (P.ops.length : Int) = (m : Int) := by rw [HPo.out, Hm.out]; simp
  have HO0 := hide (Only.refl NoBlk W3)
  clear hgd hX
  have HPw2 := hide (show ∀ (B2 : Option Addr) (c2 : Nat) (L2 : List OpV) (w' : World), OpsRd w' NoBlk B2 L2 → L2.map (·.o) = fewOps L1 10 → Only NoBlk W3 w' → Calls Tryz.prog 8 #[.agg #[.string s2, .int .i64 d, .int .i64 j, .slice B2 L2.length c2]] w' fun e w9 => e = .returned (.tuple #[.string (bs X), .int .i64 0]) ∧ Only NoBlk w' w9 from fun B2 c2 L2 w' h1 h2 h3 => by
   have := HPw.out B2 c2 L2 w' h1 h2 h3
   rw [Hgd.out] at this
   exact this)
  clear HPw
  by_cases ha : a < 0
  case pos =>
   have d1 : decide (a < 0) = true := by simp; exact ha
   have HM := hide (show showOpM P a = ([], 5) by unfold showOpM; rw [if_neg (by rw [Hgd.out]; simp), if_pos (Or.inl ha)])
   clear ha hPl
   obtain ⟨⟨g0, g1, g2, g3⟩, _⟩ := (HP3.out.only HO0.out (fun h => h)).four
   go_wp2_with fail
   refine (HFw.out _ HO0.out).mono ?_
   rintro e V1 ⟨⟨B1, L1, c1, rfl, hm9, hr9⟩, hb9⟩
   have HO1 := hide (HO0.out.trans (Only.of_below hb9 NoBlk))
   have HNq := hide (HPw2.out B1 c1 L1 V1 (hr9.monoS (fun _ h => h.elim)) hm9 HO1.out)
   skip
   clear hm9 hr9 hb9 g0 g1 g2 g3
   obtain ⟨m1, hm1⟩ : ∃ m9, m9 = L1.length := ⟨_, rfl⟩
   rw [← hm1] at HNq ⊢
   clear hm1
   go_wp2_with fail
   refine HNq.out.mono ?_
   rintro e V2 ⟨rfl, ho9⟩
   have HO2 := hide (HO1.out.trans ho9)
   clear ho9 HNq
   obtain ⟨⟨g0, g1, g2, g3⟩, _⟩ := (HP3.out.only HO2.out (fun h => h)).four
   go_wp2_with fail
   refine (HFw.out _ HO2.out).mono ?_
   rintro e V3 ⟨⟨B3, L3, c3, rfl, hm9, hr9⟩, hb9⟩
   have HO3 := hide (HO2.out.trans (Only.of_below hb9 NoBlk))
   have HNq := hide (HOw.out B3 c3 L3 V3 (hr9.monoS (fun _ h => h.elim)) hm9 HO3.out)
   rw [HM.out] at HNq
   clear hm9 hr9 hb9 g0 g1 g2 g3
   obtain ⟨m3, hm3⟩ : ∃ m9, m9 = L3.length := ⟨_, rfl⟩
   rw [← hm3] at HNq ⊢
   clear hm3
   go_wp2_with fail
   refine HNq.out.mono ?_
   rintro e V4 ⟨rfl, ho9⟩
   have HO4 := hide (HO3.out.trans ho9)
   clear ho9 HNq
   go_wp2_with fail
   refine (HLb.out _ HO4.out).mono ?_
   rintro e V5 ⟨rfl, hb9⟩
   have HO5 := hide (HO4.out.trans (Only.of_below hb9 NoBlk))
   clear hb9
   go_wp2_with fail
   refine (HRl.out _).mono ?_
   rintro e wq ⟨rfl, hwq⟩
   rw [hwq]
   clear hwq
   obtain ⟨⟨g0, g1, g2, g3⟩, _⟩ := (HP3.out.only HO5.out (fun h => h)).four
   go_wp2_with fail
   refine (HRg.out _ HO5.out).mono ?_
   rintro e V6 ⟨rfl, hb9⟩
   have HO6 := hide (HO5.out.trans (Only.of_below hb9 NoBlk))
   clear hb9 g0 g1 g2 g3
   obtain ⟨⟨g0, g1, g2, g3⟩, _⟩ := (HP3.out.only HO6.out (fun h => h)).four
   go_wp2_with fail
   refine (HRp.out _ HO6.out).mono ?_
   rintro e V7 ⟨rfl, hb9⟩
   have HO7 := hide (HO6.out.trans (Only.of_below hb9 NoBlk))
   clear hb9 g0 g1 g2 g3
   obtain ⟨⟨g0, g1, g2, g3⟩, _⟩ := (HP3.out.only HO7.out (fun h => h)).four
   go_wp2_with fail
   refine (HLv.out _ HO7.out).mono ?_
   rintro e V99 ⟨rfl, ho9⟩
   have HO99 := hide (HN3.out.trans (HO7.out.trans ho9))
   clear ho9
   go_wp2_with fail
   go_ret
   exact ⟨rfl, HO99.out⟩
  case neg =>
   have d1 : decide (a < 0) = false := by simp; omega
   by_cases hb : (m : Int) ≤ a
   case pos =>
    have d2 : decide ((m : Int) ≤ a) = true := by simp; exact hb
    have d3 : decide (a ≥ (m : Int)) = true := by simp; exact hb
    have HM := hide (show showOpM P a = ([], 5) by unfold showOpM; rw [if_neg (by rw [Hgd.out]; simp), if_pos (Or.inr (by rw [hPl]; exact hb))])
    clear ha hb hPl
    obtain ⟨⟨g0, g1, g2, g3⟩, _⟩ := (HP3.out.only HO0.out (fun h => h)).four
    go_wp2_with fail
    refine (HFw.out _ HO0.out).mono ?_
    rintro e V1 ⟨⟨B1, L1, c1, rfl, hm9, hr9⟩, hb9⟩
    have HO1 := hide (HO0.out.trans (Only.of_below hb9 NoBlk))
    have HNq := hide (HPw2.out B1 c1 L1 V1 (hr9.monoS (fun _ h => h.elim)) hm9 HO1.out)
    skip
    clear hm9 hr9 hb9 g0 g1 g2 g3
    obtain ⟨m1, hm1⟩ : ∃ m9, m9 = L1.length := ⟨_, rfl⟩
    rw [← hm1] at HNq ⊢
    clear hm1
    go_wp2_with fail
    refine HNq.out.mono ?_
    rintro e V2 ⟨rfl, ho9⟩
    have HO2 := hide (HO1.out.trans ho9)
    clear ho9 HNq
    obtain ⟨⟨g0, g1, g2, g3⟩, _⟩ := (HP3.out.only HO2.out (fun h => h)).four
    go_wp2_with fail
    refine (HFw.out _ HO2.out).mono ?_
    rintro e V3 ⟨⟨B3, L3, c3, rfl, hm9, hr9⟩, hb9⟩
    have HO3 := hide (HO2.out.trans (Only.of_below hb9 NoBlk))
    have HNq := hide (HOw.out B3 c3 L3 V3 (hr9.monoS (fun _ h => h.elim)) hm9 HO3.out)
    rw [HM.out] at HNq
    clear hm9 hr9 hb9 g0 g1 g2 g3
    obtain ⟨m3, hm3⟩ : ∃ m9, m9 = L3.length := ⟨_, rfl⟩
    rw [← hm3] at HNq ⊢
    clear hm3
    go_wp2_with fail
    refine HNq.out.mono ?_
    rintro e V4 ⟨rfl, ho9⟩
    have HO4 := hide (HO3.out.trans ho9)
    clear ho9 HNq
    go_wp2_with fail
    refine (HLb.out _ HO4.out).mono ?_
    rintro e V5 ⟨rfl, hb9⟩
    have HO5 := hide (HO4.out.trans (Only.of_below hb9 NoBlk))
    clear hb9
    go_wp2_with fail
    refine (HRl.out _).mono ?_
    rintro e wq ⟨rfl, hwq⟩
    rw [hwq]
    clear hwq
    obtain ⟨⟨g0, g1, g2, g3⟩, _⟩ := (HP3.out.only HO5.out (fun h => h)).four
    go_wp2_with fail
    refine (HRg.out _ HO5.out).mono ?_
    rintro e V6 ⟨rfl, hb9⟩
    have HO6 := hide (HO5.out.trans (Only.of_below hb9 NoBlk))
    clear hb9 g0 g1 g2 g3
    obtain ⟨⟨g0, g1, g2, g3⟩, _⟩ := (HP3.out.only HO6.out (fun h => h)).four
    go_wp2_with fail
    refine (HRp.out _ HO6.out).mono ?_
    rintro e V7 ⟨rfl, hb9⟩
    have HO7 := hide (HO6.out.trans (Only.of_below hb9 NoBlk))
    clear hb9 g0 g1 g2 g3
    obtain ⟨⟨g0, g1, g2, g3⟩, _⟩ := (HP3.out.only HO7.out (fun h => h)).four
    go_wp2_with fail
    refine (HLv.out _ HO7.out).mono ?_
    rintro e V99 ⟨rfl, ho9⟩
    have HO99 := hide (HN3.out.trans (HO7.out.trans ho9))
    clear ho9
    go_wp2_with fail
    go_ret
    exact ⟨rfl, HO99.out⟩
   case neg =>
    obtain ⟨q, rfl⟩ : ∃ q : Nat, a = (q : Int) := ⟨a.toNat, by omega⟩
    have hop : q < m := by omega
    have hql : q < L1.length := by rw [← Hm.out]; exact hop
    have d2 : decide ((m : Int) ≤ (q : Int)) = false := by simp; omega
    have d3 : decide ((q : Int) ≥ (m : Int)) = false := by simp; omega
    have d4 : decide (m ≤ q) = false := by simp; omega
    have j1 : (0 : Int) ≤ (q : Int) := by omega
    have j2 : (q : Int) < (m : Int) := by omega
    have HM := hide (show showOpM P (q : Int) = (opT (opAt L1 q).o, 0) by
     unfold showOpM
     rw [if_neg (by rw [Hgd.out]; simp), if_neg (by rw [hPl]; omega), HPo.out, Int.toNat_natCast, atT_at opT L1 q hql])
    clear ha hb hPl
    obtain ⟨ab, ao, hA⟩ : ∃ ab ao, B = some ⟨ab, ao, none⟩ := by
     obtain ⟨ab, ao, hA, _⟩ := op_cells HR3.out.1 q hql
     exact ⟨ab, ao, hA⟩
    subst hA
    have HCl := hide (show ∀ w', Only NoBlk W3 w' → w'.cell? ⟨ab, ao + q * 7, none⟩ = some (.int .i64 (opAt L1 q).o.kind) ∧ w'.cell? ⟨ab, ao + q * 7 + 1, none⟩ = some (.string (opAt L1 q).o.text) ∧ w'.cell? ⟨ab, ao + q * 7 + 2, none⟩ = some (.int .i64 (opAt L1 q).o.n) ∧ w'.cell? ⟨ab, ao + q * 7 + 3, none⟩ = some (.int .i64 (opAt L1 q).o.to) ∧ w'.cell? ⟨ab, ao + q * 7 + 4, none⟩ = some (.slice (opAt L1 q).A (opAt L1 q).o.arms.length (opAt L1 q).c) ∧ w'.cell? ⟨ab, ao + q * 7 + 5, none⟩ = some (.int .i64 (opAt L1 q).o.onT) ∧ w'.cell? ⟨ab, ao + q * 7 + 6, none⟩ = some (.int .i64 (opAt L1 q).o.onE) from fun w' k => by
     obtain ⟨ab2, ao2, hA2, _, a0, a1, a2, a3, a4, a5, a6⟩ := op_cells (HR3.out.only k (fun _ h => h)).1 q hql
     injection hA2 with hA2
     injection hA2 with e1 e2 _
     subst e1; subst e2
     exact ⟨a0, a1, a2, a3, a4, a5, a6⟩)
    have HRo := hide (fun (w' : World) (k : Only NoBlk W3 w') => refOpS_c (opAt L1 q).o.kind (opAt L1 q).o.text (opAt L1 q).o.n (opAt L1 q).o.to (opAt L1 q).A (opAt L1 q).o.arms (opAt L1 q).c (opAt L1 q).o.onT (opAt L1 q).o.onE w' ((HR3.out.only k (fun _ h => h)).2 _ (opAt_mem hql)) (HGo.out q hop).2)
    have HOe := hide (show opT (opAt L1 q).o = opD ⟨(opAt L1 q).o.kind, (opAt L1 q).o.text, (opAt L1 q).o.n, (opAt L1 q).o.to, (opAt L1 q).o.arms, (opAt L1 q).o.onT, (opAt L1 q).o.onE⟩ from (HGo.out q hop).1)
    rw [HOe.out] at HM
    clear HOe
    obtain ⟨v9, hv9⟩ : ∃ v9, v9 = opAt L1 q := ⟨_, rfl⟩
    rw [← hv9] at HCl HRo HM
    clear hv9 HGo
    obtain ⟨⟨uk, ut, un, ug, ua, ux, uy⟩, uA, uc⟩ := v9
    simp only at HCl HRo HM
    obtain ⟨Y, hY⟩ : ∃ Y, Y = opD ⟨uk, ut, un, ug, ua, ux, uy⟩ := ⟨_, rfl⟩
    rw [← hY] at HRo HM
    obtain ⟨u9, hu9⟩ : ∃ u9, u9 = ua.length := ⟨_, rfl⟩
    rw [← hu9] at HCl HRo
    clear hY hu9 hop hql
    have HOw2 := hide (show ∀ (B2 : Option Addr) (c2 : Nat) (L2 : List OpV) (w' : World), OpsRd w' NoBlk B2 L2 → L2.map (·.o) = fewOps L1 10 → Only NoBlk W3 w' → Calls Tryz.prog 9 #[.agg #[.string s2, .int .i64 d, .int .i64 j, .slice B2 L2.length c2], .int .i64 (q : Int)] w' fun e w9 => e = .returned (.tuple #[.string (bs Y), .int .i64 0]) ∧ Only NoBlk w' w9 from fun B2 c2 L2 w' h1 h2 h3 => by
     have := HOw.out B2 c2 L2 w' h1 h2 h3
     rw [HM.out] at this
     exact this)
    clear HOw HM
    obtain ⟨⟨g0, g1, g2, g3⟩, _⟩ := (HP3.out.only HO0.out (fun h => h)).four
    go_wp2_with fail
    refine (HFw.out _ HO0.out).mono ?_
    rintro e V1 ⟨⟨B1, L1, c1, rfl, hm9, hr9⟩, hb9⟩
    have HO1 := hide (HO0.out.trans (Only.of_below hb9 NoBlk))
    have HNq := hide (HPw2.out B1 c1 L1 V1 (hr9.monoS (fun _ h => h.elim)) hm9 HO1.out)
    skip
    clear hm9 hr9 hb9 g0 g1 g2 g3
    obtain ⟨m1, hm1⟩ : ∃ m9, m9 = L1.length := ⟨_, rfl⟩
    rw [← hm1] at HNq ⊢
    clear hm1
    go_wp2_with fail
    refine HNq.out.mono ?_
    rintro e V2 ⟨rfl, ho9⟩
    have HO2 := hide (HO1.out.trans ho9)
    clear ho9 HNq
    obtain ⟨⟨g0, g1, g2, g3⟩, _⟩ := (HP3.out.only HO2.out (fun h => h)).four
    go_wp2_with fail
    refine (HFw.out _ HO2.out).mono ?_
    rintro e V3 ⟨⟨B3, L3, c3, rfl, hm9, hr9⟩, hb9⟩
    have HO3 := hide (HO2.out.trans (Only.of_below hb9 NoBlk))
    have HNq := hide (HOw2.out B3 c3 L3 V3 (hr9.monoS (fun _ h => h.elim)) hm9 HO3.out)
    skip
    clear hm9 hr9 hb9 g0 g1 g2 g3
    obtain ⟨m3, hm3⟩ : ∃ m9, m9 = L3.length := ⟨_, rfl⟩
    rw [← hm3] at HNq ⊢
    clear hm3
    go_wp2_with fail
    refine HNq.out.mono ?_
    rintro e V4 ⟨rfl, ho9⟩
    have HO4 := hide (HO3.out.trans ho9)
    clear ho9 HNq
    go_wp2_with fail
    refine (HLb.out _ HO4.out).mono ?_
    rintro e V5 ⟨rfl, hb9⟩
    have HO5 := hide (HO4.out.trans (Only.of_below hb9 NoBlk))
    clear hb9
    go_wp2_with fail
    refine (HRl.out _).mono ?_
    rintro e wq ⟨rfl, hwq⟩
    rw [hwq]
    clear hwq
    obtain ⟨⟨g0, g1, g2, g3⟩, _⟩ := (HP3.out.only HO5.out (fun h => h)).four
    go_wp2_with fail
    refine (HRg.out _ HO5.out).mono ?_
    rintro e V6 ⟨rfl, hb9⟩
    have HO6 := hide (HO5.out.trans (Only.of_below hb9 NoBlk))
    clear hb9 g0 g1 g2 g3
    obtain ⟨⟨g0, g1, g2, g3⟩, _⟩ := (HP3.out.only HO6.out (fun h => h)).four
    go_wp2_with fail
    refine (HRp.out _ HO6.out).mono ?_
    rintro e V7 ⟨rfl, hb9⟩
    have HO7 := hide (HO6.out.trans (Only.of_below hb9 NoBlk))
    clear hb9 g0 g1 g2 g3
    obtain ⟨⟨g0, g1, g2, g3⟩, _⟩ := (HP3.out.only HO7.out (fun h => h)).four
    obtain ⟨a0, a1, a2, a3, a4, a5, a6⟩ := HCl.out _ HO7.out
    go_wp2_with fail
    refine (HRo.out _ HO7.out).mono ?_
    rintro e V8 ⟨rfl, hb9⟩
    have HO8 := hide (HO7.out.trans (Only.of_below hb9 NoBlk))
    clear hb9 g0 g1 g2 g3 a0 a1 a2 a3 a4 a5 a6
    go_wp2_with fail
    refine (HLv.out _ HO8.out).mono ?_
    rintro e V99 ⟨rfl, ho9⟩
    have HO99 := hide (HN3.out.trans (HO8.out.trans ho9))
    clear ho9
    go_wp2_with fail
    go_ret
    exact ⟨rfl, HO99.out⟩
end Go.Proofs.YtdmdohjdmnmabaaGreatDoor
