/- The law ShowBack, walked. Conditions: those of each theorem. -/
import Derived.Test.YtaioaojfdngfdaaGreatDoorRtM
namespace Go.Proofs.YtaioaojfdngfdaaGreatDoor
open Go.RowKit
set_option linter.unusedVariables false
set_option linter.unusedSimpArgs false
theorem OpsRd.monoS {w : World} {M M' : Nat → Prop} {A : Option Addr} {L : List OpV} (h : OpsRd w M A L) (hm : ∀ b, M' b → M b) : OpsRd w M' A L := ⟨h.1.mono hm, fun v hv => (h.2 v hv).mono hm⟩
theorem good_arms {s : ByteArray} {d j : Int} {L : List OpV} (h : goodM (progM s d j L) = true) : ∀ v ∈ L, v.o.arms.length ≤ 1000000 := by
  intro v hv
  have ho : v.o ∈ (progM s d j L).ops := List.mem_map.2 ⟨v, hv, rfl⟩
  have h1 := good_op h v.o ho
  unfold opE at h1
  split at h1
  · cases h1
  split at h1
  · cases h1
  rename_i hb
  have hb' : bareB v.o = true := by simpa using hb
  unfold bareB at hb'
  simp only [Bool.and_eq_true, Bool.or_eq_true, decide_eq_true_eq] at hb'
  rcases hb'.2 with h2 | h2
  · rw [if_neg (by omega), if_pos h2] at h1
    unfold expectE at h1
    split at h1
    · cases h1
    split at h1
    · cases h1
    omega
  · have := h2.1.1
    omega
set_option maxRecDepth 100000 in
set_option maxHeartbeats 25600000 in
theorem ShowBack_walk (s : ByteArray) (d j : Int) (A : Option Addr) (L : List OpV) (c : Nat) (w : World) (hr : OpsRd w NoBlk A L) (hn : L.length ≤ maxLen) (hz : ∀ v ∈ L, OpSz v) (ht : Tab w) (hv : Vars w) :
    Calls Tryz.prog 10 #[.agg #[.string s, .int .i64 d, .int .i64 j, .slice A L.length c]] w fun e w' => e = .returned (.bool true) ∧ Only NoBlk w w' := by
  obtain ⟨g, hg⟩ : ∃ g, g = w.heap.size := ⟨_, rfl⟩
  obtain ⟨W, hW⟩ : ∃ W, W = w.alloc (.cells #[.string s, .int .i64 d, .int .i64 j, .slice A L.length c] 25) := ⟨_, rfl⟩
  have HB := hide (show Below g w W by rw [hW, hg]; exact below_alloc _ _)
  have HP := hide (show Blk W g 25 #[.string s, .int .i64 d, .int .i64 j, .slice A L.length c] by rw [hW, hg]; exact Blk.new w 25 _)
  have HF1 := hide (few_c s d j A L c 12 W (hr.only (Only.of_below (by rw [← hg]; exact HB.out) NoBlk) (fun _ h => h.elim)) hn hz (by omega))
  have HFz := hide (fun (L' : List OpV) (h : L'.map (·.o) = fewOps L 12) => few_sz h hz)
  have HFl := hide (fun (L' : List OpV) (h : L'.map (·.o) = fewOps L 12) => Nat.le_trans (few_len h) hn)
  have HWs := hide (show W.heap.size = g + 1 by rw [hW, hg]; simp)
  have HOf := hide (show ∀ w', Below g w w' → Only NoBlk w w' from fun w' k => Only.of_below (by rw [← hg]; exact k) NoBlk)
  obtain ⟨n, hnl⟩ : ∃ n, n = L.length := ⟨_, rfl⟩
  rw [← hnl] at HP HF1 hW ⊢
  have HW := hide hW
  have Hg := hide hg
  have HTb := hide (fun (w' : World) (k : Only NoBlk w w') => ht.only k)
  have HVb := hide (fun (w' : World) (k : Only NoBlk w w') => hv.only k)
  clear hr hn hz hW hg hnl ht hv
  go_enter Tryz.func10, Tryz.ntmps10
  go_upto_region 1 with fail
  change Code.wp _ _ _ _ (w.alloc (.cells #[.string s, .int .i64 d, .int .i64 j, .slice A n c] 25))
  rw [← HW.out, ← Hg.out]
  obtain ⟨⟨g0, g1, g2, g3⟩, _⟩ := HP.out.four
  go_wp2_with fail
  refine HF1.out.mono ?_
  rintro e w2 ⟨⟨B, L1, c1, rfl, hm1, hr1⟩, hb1⟩
  have HM1 := hide hm1
  have HR1 := hide hr1
  have HB2 := hide (HB.out.trans (hb1.mono (by have := HB.out.size; have := Hg.out; omega)))
  have HP2 := hide (HP.out.below hb1)
  have HLz := hide (HFz.out L1 hm1)
  have HLl := hide (HFl.out L1 hm1)
  clear hm1 hr1 hb1 g0 g1 g2 g3
  obtain ⟨⟨g0, g1, g2, g3⟩, f0, f1, f2, f3⟩ := HP2.out.four
  obtain ⟨s1, hs1⟩ : ∃ s1, s1 = cutS s 20 := ⟨_, rfl⟩
  have HS1 := hide hs1
  rw [← hs1]
  obtain ⟨m, hm⟩ : ∃ m, m = L1.length := ⟨_, rfl⟩
  have Hm := hide hm
  rw [← hm]
  clear hs1 hm
  go_upto_region 2 with fail
  rw [put4]
  obtain ⟨W3, hW3⟩ : ∃ W3, W3 = putFrom w2 g 0 [.string s1, .int .i64 d, .int .i64 j, .slice B m c1] := ⟨_, rfl⟩
  have HB3 := hide (show Below g w W3 by rw [hW3]; exact below_put [.string s1, .int .i64 d, .int .i64 j, .slice B m c1] 0 HB2.out (Nat.le_refl _))
  have HP3 := hide (show Blk W3 g 25 #[.string s1, .int .i64 d, .int .i64 j, .slice B m c1] by rw [hW3]; exact HP2.out.put [.string s1, .int .i64 d, .int .i64 j, .slice B m c1] rfl)
  have HR3 := hide (show OpsRd W3 NoBlk B L1 by rw [hW3]; exact (HR1.out.only (only_put [.string s1, .int .i64 d, .int .i64 j, .slice B m c1] 0 w2 g) (fun k hk => by have : k = g := hk; have := HWs.out; show k < W.heap.size; omega)).monoS (fun _ h => h.elim))
  rw [← hW3]
  clear hW3 g0 g1 g2 g3 f0 f1 f2 f3
  have HN3 := hide (HOf.out _ HB3.out)
  have hs20 : s1.size ≤ 20 := by rw [HS1.out, cutS_size]; omega
  have HFw := hide (fun (w' : World) (k : Only NoBlk W3 w') => few_c s1 d j B L1 c1 12 w' (HR3.out.only k (fun _ h => h)) HLl.out HLz.out (by omega))
  have HEq := hide (fun (L2 : List OpV) (hm2 : L2.map (·.o) = fewOps L1 12) => show progM (cutS s1 20) d j L2 = progM s1 d j L1 by
    unfold progM
    rw [hm2, fewOps_idem HM1.out, HS1.out, cutS_twice])
  obtain ⟨P, hP⟩ : ∃ P, P = progM s1 d j L1 := ⟨_, rfl⟩
  have HPw := hide (fun (B2 : Option Addr) (c2 : Nat) (L2 : List OpV) (w' : World) (h2 : OpsRd w' NoBlk B2 L2) (hm2 : L2.map (·.o) = fewOps L1 12) (k : Only NoBlk W3 w') => show Calls Tryz.prog 35 #[.agg #[.string (cutS s1 20), .int .i64 d, .int .i64 j, .slice B2 L2.length c2]] w' fun e w9 => e = .returned (.tuple #[.string ⟨(if goodM P = true then progT P else []).toArray⟩, .int .i64 (if goodM P = true then 0 else 2)]) ∧ Only NoBlk w' w9 from by
    rw [hP, ← HEq.out L2 hm2]
    exact sProg_c (cutS s1 20) d j B2 c2 L2 w' h2 (Nat.le_trans (few_len hm2) HLl.out) (by rw [cutS_size]; omega) (few_sz hm2 HLz.out) (HTb.out _ (HN3.out.trans k)))
  have HRg := hide (fun (w' : World) (k : Only NoBlk W3 w') => refGood_c s1 d j B c1 L1 w' (HR3.out.only k (fun _ h => h)) HLl.out (by omega) HLz.out)
  have HLv := hide (fun (w' : World) (k : Only NoBlk W3 w') => lives15_c w' (HTb.out _ (HN3.out.trans k)))
  rw [← hP, ← Hm.out] at HRg
  rw [← Hm.out] at HFw
  have HPe := hide hP
  clear hP
  obtain ⟨s2, hs2⟩ : ∃ s2, s2 = cutS s1 20 := ⟨_, rfl⟩
  rw [← hs2] at HFw HPw
  clear hs2
  have HO0 := hide (Only.refl NoBlk W3)
  cases hgd : goodM P with
  | false =>
    rw [hgd] at HRg
    clear hgd
    obtain ⟨⟨g0, g1, g2, g3⟩, _⟩ := HP3.out.four
    go_wp2_with fail
    refine (HRg.out _ HO0.out).mono ?_
    rintro e V1 ⟨rfl, hb9⟩
    have HO1 := hide (HO0.out.trans (Only.of_below hb9 NoBlk))
    clear hb9 g0 g1 g2 g3
    go_wp2_with fail
    refine (HLv.out _ HO1.out).mono ?_
    rintro e V99 ⟨rfl, ho9⟩
    have HO99 := hide (HN3.out.trans (HO1.out.trans ho9))
    clear ho9
    go_wp2_with fail
    go_ret
    exact ⟨rfl, HO99.out⟩
  | true =>
    have HPar := hide (fun (w' : World) (k : Only NoBlk W3 w') => pprog_c P hgd w' (HVb.out _ (HN3.out.trans k)))
    have HAr := hide (show ∀ v ∈ L1, v.o.arms.length ≤ 1000000 by rw [HPe.out] at hgd; exact good_arms hgd)
    have HPw2 := hide (show ∀ (B2 : Option Addr) (c2 : Nat) (L2 : List OpV) (w' : World), OpsRd w' NoBlk B2 L2 → L2.map (·.o) = fewOps L1 12 → Only NoBlk W3 w' → Calls Tryz.prog 35 #[.agg #[.string s2, .int .i64 d, .int .i64 j, .slice B2 L2.length c2]] w' fun e w9 => e = .returned (.tuple #[.string ⟨(progT P).toArray⟩, .int .i64 0]) ∧ Only NoBlk w' w9 from fun B2 c2 L2 w' h1 h2 h3 => by
      have := HPw.out B2 c2 L2 w' h1 h2 h3
      rw [hgd, if_pos rfl, if_pos rfl] at this
      exact this)
    have hl1 : L1.length ≤ 200 := by
      have := (head_facts hgd).2.2.2.1
      rw [HPe.out] at this
      simpa [progM] using this
    rw [hgd] at HRg
    clear HPw hgd
    have hPn : P.name = s1 := by rw [HPe.out]; rfl
    have hPd : P.deadline = d := by rw [HPe.out]; rfl
    have hPj : P.jumps = j := by rw [HPe.out]; rfl
    rw [hPn, hPd, hPj] at HPar
    have HPo := hide (show P.ops = L1.map (·.o) by rw [HPe.out]; rfl)
    clear hPn hPd hPj
    obtain ⟨X, hX⟩ : ∃ X, X = (⟨(progT P).toArray⟩ : ByteArray) := ⟨_, rfl⟩
    rw [← hX] at HPar HPw2
    clear hX
    obtain ⟨⟨g0, g1, g2, g3⟩, _⟩ := HP3.out.four
    go_wp2_with fail
    refine (HRg.out _ HO0.out).mono ?_
    rintro e V1 ⟨rfl, hb9⟩
    have HO1 := hide (HO0.out.trans (Only.of_below hb9 NoBlk))
    clear hb9 g0 g1 g2 g3
    obtain ⟨⟨g0, g1, g2, g3⟩, _⟩ := (HP3.out.only HO1.out (fun h => h)).four
    go_wp2_with fail
    refine (HFw.out _ HO1.out).mono ?_
    rintro e V2 ⟨⟨B2, L2, c2, rfl, hm9, hr9⟩, hb9⟩
    have HO2 := hide (HO1.out.trans (Only.of_below hb9 NoBlk))
    have HNq := hide (HPw2.out B2 c2 L2 V2 (hr9.monoS (fun _ h => h.elim)) hm9 HO2.out)
    clear hm9 hr9 hb9 g0 g1 g2 g3
    obtain ⟨m2, hm2⟩ : ∃ m9, m9 = L2.length := ⟨_, rfl⟩
    rw [← hm2] at HNq ⊢
    clear hm2
    go_wp2_with fail
    refine HNq.out.mono ?_
    rintro e V3 ⟨rfl, ho9⟩
    have HO3 := hide (HO2.out.trans ho9)
    clear ho9 HNq
    go_wp2_with fail
    refine (HPar.out _ HO3.out).mono ?_
    rintro e V4 ⟨⟨A4, c4, L4, rfl, hL4, hr4⟩, k4⟩
    have HO4 := hide (HO3.out.trans k4)
    have HR4 := hide hr4
    have HL4 := hide hL4
    clear k4 hr4 hL4
    go_upto_region 6 with fail
    generalize hY : World.alloc (World.alloc V4 _) _ = Y
    obtain ⟨h, hh⟩ : ∃ h, h = V4.heap.size := ⟨_, rfl⟩
    have HY := hide (show Only NoBlk V4 Y by rw [← hY]; exact ((Only.refl _ V4).alloc _).alloc _)
    have HH := hide (show Blk Y h 25 #[.string s1, .int .i64 d, .int .i64 j, .slice A4 L4.length c4] by rw [← hY, hh]; exact (Blk.new _ _ _).alloc _)
    rw [← hh]
    clear hY hh
    have HO5 := hide (HO4.out.trans HY.out)
    have HSm := hide (refSame_c s1 d j B A4 c1 c4 L1 L4 Y (HR3.out.only HO5.out (fun _ h => h)) (HR4.out.only HY.out (fun _ h => h)) (HL4.out.trans HPo.out).symm (by omega) HAr.out)
    rw [← Hm.out] at HSm
    obtain ⟨⟨g0, g1, g2, g3⟩, _⟩ := (HP3.out.only HO5.out (fun h => h)).four
    obtain ⟨⟨h0, h1, h2, h3⟩, _⟩ := HH.out.four
    go_wp2_with fail
    refine HSm.out.mono ?_
    rintro e V6 ⟨rfl, k6⟩
    have HO6 := hide (HO5.out.trans k6)
    clear k6 g0 g1 g2 g3 h0 h1 h2 h3
    go_wp2_with fail
    refine (HLv.out _ HO6.out).mono ?_
    rintro e V99 ⟨rfl, ho9⟩
    have HO99 := hide (HN3.out.trans (HO6.out.trans ho9))
    clear ho9
    go_wp2_with fail
    go_ret
    exact ⟨rfl, HO99.out⟩
end Go.Proofs.YtaioaojfdngfdaaGreatDoor
