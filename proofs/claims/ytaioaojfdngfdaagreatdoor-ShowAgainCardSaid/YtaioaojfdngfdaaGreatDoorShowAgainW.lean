/- The law ShowAgain, walked. Conditions: those of each theorem. -/
import Derived.Test.YtaioaojfdngfdaaGreatDoorShowBackW
namespace Go.Proofs.YtaioaojfdngfdaaGreatDoor
open Go.RowKit
set_option linter.unusedVariables false
set_option linter.unusedSimpArgs false
theorem good_opz {s : ByteArray} {d j : Int} {L : List OpV} (h : goodM (progM s d j L) = true) : L.length ≤ 200 ∧ L.length ≤ maxLen ∧ s.size ≤ 9223372036854775807 ∧ ∀ v ∈ L, OpSz v := by
  obtain ⟨h1, h2, h3, h4, h5⟩ := head_facts h
  have hl : L.length ≤ 200 := by simpa [progM] using h4
  refine ⟨hl, Nat.le_trans hl (by decide), Nat.le_trans (show s.size ≤ 16 from h5) (by decide), ?_⟩
  intro v hv
  obtain ⟨a1, a2, a3⟩ := (good_sz h).2.2 v.o (List.mem_map.2 ⟨v, hv, rfl⟩)
  exact ⟨Nat.le_trans a2 (by decide), Nat.le_trans a1 (by decide), fun a ha => Nat.le_trans (a3 a ha) (by decide)⟩
theorem text600_c (t : ByteArray) (w : World) (ht : t.size ≤ 600) (hv : Vars w) : Calls Tryz.prog 13 #[.string t] w fun e w' =>
    (∃ s d j A c L x y E, e = .returned (.tuple #[.agg #[.string s, .int .i64 d, .int .i64 j, .slice A L.length c], .agg #[.int .i64 x, .int .i64 y], .int .i64 E]) ∧ OpsRd w' NoBlk A L ∧ (E = 0 → goodM (progM s d j L) = true)) ∧ Only NoBlk w w' := by
  refine (pparse_c t w (by omega) hv.len hv.err hv.lt).mono fun e w' ⟨⟨oA, oc, L, he, hm, hr⟩, k⟩ => ⟨⟨_, _, _, oA, oc, L, _, _, _, he, ⟨hr.1.mono (fun _ h => h.elim), fun v hv => (hr.2 v hv).mono (fun _ h => h.elim)⟩, fun h0 => ?_⟩, k⟩
  rw [parse_same] at h0 hm ⊢
  have hg := parseD_good _ h0
  have e : progM (parseD t.data.toList).1.name (parseD t.data.toList).1.deadline (parseD t.data.toList).1.jumps L = (parseD t.data.toList).1 := by unfold progM; rw [hm]
  rw [e]
  exact hg
set_option maxRecDepth 100000 in
set_option maxHeartbeats 25600000 in
theorem ShowAgain_walk (a0 : ByteArray) (w : World) (z0 : a0.size ≤ 9223372036854775807) (ht : Tab w) (hv : Vars w) :
    Calls Tryz.prog 11 #[.string a0] w fun e w' => e = .returned (.bool true) ∧ Only NoBlk w w' := by
  have HTb := hide (fun (w' : World) (k : Only NoBlk w w') => ht.only k)
  have HVb := hide (fun (w' : World) (k : Only NoBlk w w') => hv.only k)
  have HLv := hide (fun (w' : World) (k : Only NoBlk w w') => lives15_c w' (ht.only k))
  clear ht hv
  have key : ∀ t : ByteArray, t.size ≤ 600 → Calls Tryz.prog 13 #[.string t] w fun e w' =>
    (∃ s d j A c L x y E, e = .returned (.tuple #[.agg #[.string s, .int .i64 d, .int .i64 j, .slice A L.length c], .agg #[.int .i64 x, .int .i64 y], .int .i64 E]) ∧ OpsRd w' NoBlk A L ∧ (E = 0 → goodM (progM s d j L) = true)) ∧ Only NoBlk w w' := fun t ht => text600_c t w ht (HVb.out _ (Only.refl _ _))
  have HK := hide key
  clear key
  go_enter Tryz.func11, Tryz.ntmps11
  by_cases hc : 600 < a0.size
  case pos =>
    have d1 : decide ((600 : Int) < (a0.size : Int)) = true := by simp; omega
    have d2 : decide (600 < a0.size) = true := by simp; omega
    have j2 : (600 : Int) ≤ (a0.size : Int) := by omega
    have HK2 := hide (HK.out (a0.extract 0 600) (by rw [ByteArray.size_extract]; omega))
    go_wp2_with fail
    refine HK2.out.mono ?_
    rintro e V1 ⟨⟨s, d, j, A, c, L, x, y, E, rfl, hr1, hg1⟩, k1⟩
    have HR1 := hide hr1
    have HG1 := hide hg1
    have HO1 := hide k1
    clear k1 hr1 hg1
    go_upto_region 4 with fail
    generalize hY : World.alloc (World.alloc V1 _) _ = Y
    obtain ⟨g, hh⟩ : ∃ h, h = V1.heap.size := ⟨_, rfl⟩
    have HY := hide (show Only NoBlk V1 Y by rw [← hY]; exact ((Only.refl _ V1).alloc _).alloc _)
    have HP := hide (show Blk Y g 25 #[.string s, .int .i64 d, .int .i64 j, .slice A L.length c] by rw [← hY, hh]; exact (Blk.new _ _ _).alloc _)
    rw [← hh]
    clear hY hh
    have HO2 := hide (HO1.out.trans HY.out)
    have HR2 := hide (HR1.out.only HY.out (fun _ h => h))
    clear HY HR1
    by_cases hE : E = 0
    case neg =>
      have q1 : (E != 0) = true := bne_iff_ne.2 hE
      clear hE HG1
      go_wp2_with fail
      refine (HLv.out _ HO2.out).mono ?_
      rintro e V99 ⟨rfl, ho9⟩
      have HO99 := hide (HO2.out.trans ho9)
      clear ho9
      go_wp2_with fail
      go_ret
      exact ⟨rfl, HO99.out⟩
    case pos =>
      have q1 : (E != 0) = false := by rw [hE]; rfl
      have hgd := HG1.out hE
      clear hE HG1
      obtain ⟨l1, l2, l3, l4⟩ := good_opz hgd
      have HLz := hide l4
      have HAr := hide (good_arms hgd)
      obtain ⟨P, hP⟩ : ∃ P, P = progM s d j L := ⟨_, rfl⟩
      have HSh := hide (fun (L' : List OpV) (A' : Option Addr) (c' : Nat) (w' : World) (h2 : OpsRd w' NoBlk A' L') (hm : L'.map (·.o) = P.ops) (k : Only NoBlk w w') => show Calls Tryz.prog 35 #[.agg #[.string s, .int .i64 d, .int .i64 j, .slice A' L'.length c']] w' fun e w9 => e = .returned (.tuple #[.string ⟨(progT P).toArray⟩, .int .i64 0]) ∧ Only NoBlk w' w9 from by
        have e1 : progM s d j L' = P := by rw [hP]; unfold progM; rw [hm, hP]; rfl
        have hg' := hgd
        rw [← hP, ← e1] at hg'
        obtain ⟨n1, n2, n3, n4⟩ := good_opz hg'
        have := sProg_c s d j A' c' L' w' h2 n2 n3 n4 (HTb.out _ k)
        rw [hg', if_pos rfl, if_pos rfl, e1] at this
        exact this)
      rw [← hP] at hgd
      have HPar := hide (fun (w' : World) (k : Only NoBlk w w') => pprog_c P hgd w' (HVb.out _ k))
      have hPn : P.name = s := by rw [hP]; rfl
      have hPd : P.deadline = d := by rw [hP]; rfl
      have hPj : P.jumps = j := by rw [hP]; rfl
      rw [hPn, hPd, hPj] at HPar
      have HPo := hide (show L.map (·.o) = P.ops by rw [hP]; rfl)
      have HS1 := hide (HSh.out L A c Y HR2.out HPo.out HO2.out)
      clear hPn hPd hPj hgd hP l2 l3 l4
      obtain ⟨X, hX⟩ : ∃ X, X = (⟨(progT P).toArray⟩ : ByteArray) := ⟨_, rfl⟩
      rw [← hX] at HPar HSh HS1
      clear hX
      obtain ⟨m, hm⟩ : ∃ m, m = L.length := ⟨_, rfl⟩
      have Hm := hide hm
      rw [← hm] at HP HS1 l1
      try rw [← hm]
      clear hm
      obtain ⟨⟨g0, g1, g2, g3⟩, _⟩ := HP.out.four
      go_wp2_with fail
      refine HS1.out.mono ?_
      rintro e V3 ⟨rfl, k3⟩
      have HO3 := hide (HO2.out.trans k3)
      have HP3 := hide (HP.out.only k3 (fun h => h))
      have HR3 := hide (HR2.out.only k3 (fun _ h => h))
      clear k3 g0 g1 g2 g3 HS1
      go_wp2_with fail
      refine (HPar.out _ HO3.out).mono ?_
      rintro e V4 ⟨⟨A4, c4, L4, rfl, hL4, hr4⟩, k4⟩
      have HO4 := hide (HO3.out.trans k4)
      have HP4 := hide (HP3.out.only k4 (fun h => h))
      have HR4 := hide (HR3.out.only k4 (fun _ h => h))
      have HQ4 := hide hr4
      have HL4 := hide hL4
      clear k4 hr4 hL4
      go_upto_region 8 with fail
      generalize hY : World.alloc (World.alloc V4 _) _ = Y2
      obtain ⟨h, hh⟩ : ∃ h, h = V4.heap.size := ⟨_, rfl⟩
      have HY := hide (show Only NoBlk V4 Y2 by rw [← hY]; exact ((Only.refl _ V4).alloc _).alloc _)
      have HH := hide (show Blk Y2 h 25 #[.string s, .int .i64 d, .int .i64 j, .slice A4 L4.length c4] by rw [← hY, hh]; exact (Blk.new _ _ _).alloc _)
      rw [← hh]
      clear hY hh
      have HO5 := hide (HO4.out.trans HY.out)
      have HP5 := hide (HP4.out.only HY.out (fun h => h))
      have HR5 := hide (HR4.out.only HY.out (fun _ h => h))
      have HQ5 := hide (HQ4.out.only HY.out (fun _ h => h))
      have HS2 := hide (HSh.out L4 A4 c4 Y2 HQ5.out HL4.out HO5.out)
      obtain ⟨⟨h0, h1, h2, h3⟩, _⟩ := HH.out.four
      go_wp2_with fail
      refine HS2.out.mono ?_
      rintro e V6 ⟨rfl, k6⟩
      have HO6 := hide (HO5.out.trans k6)
      have HP6 := hide (HP5.out.only k6 (fun h => h))
      have HH6 := hide (HH.out.only k6 (fun h => h))
      have HSm := hide (refSame_c s d j A A4 c c4 L L4 V6 (HR5.out.only k6 (fun _ h => h)) (HQ5.out.only k6 (fun _ h => h)) (HPo.out.trans HL4.out.symm) (by have := Hm.out; omega) HAr.out)
      rw [← Hm.out] at HSm
      clear k6 h0 h1 h2 h3
      obtain ⟨⟨g0, g1, g2, g3⟩, _⟩ := HP6.out.four
      obtain ⟨⟨h0, h1, h2, h3⟩, _⟩ := HH6.out.four
      have q9 : (X.toList == X.toList) = true := by simp
      go_wp2_with fail
      refine HSm.out.mono ?_
      rintro e V7 ⟨rfl, k7⟩
      have HO7 := hide (HO6.out.trans k7)
      clear k7 g0 g1 g2 g3 h0 h1 h2 h3
      go_wp2_with fail
      refine (HLv.out _ HO7.out).mono ?_
      rintro e V99 ⟨rfl, ho9⟩
      have HO99 := hide (HO7.out.trans ho9)
      clear ho9
      go_wp2_with fail
      go_ret
      exact ⟨rfl, HO99.out⟩
  case neg =>
    have d1 : decide ((600 : Int) < (a0.size : Int)) = false := by simp; omega
    have d2 : decide (600 < a0.size) = false := by simp; omega
    have HK2 := hide (HK.out a0 (by omega))
    go_wp2_with fail
    refine HK2.out.mono ?_
    rintro e V1 ⟨⟨s, d, j, A, c, L, x, y, E, rfl, hr1, hg1⟩, k1⟩
    have HR1 := hide hr1
    have HG1 := hide hg1
    have HO1 := hide k1
    clear k1 hr1 hg1
    go_upto_region 4 with fail
    generalize hY : World.alloc (World.alloc V1 _) _ = Y
    obtain ⟨g, hh⟩ : ∃ h, h = V1.heap.size := ⟨_, rfl⟩
    have HY := hide (show Only NoBlk V1 Y by rw [← hY]; exact ((Only.refl _ V1).alloc _).alloc _)
    have HP := hide (show Blk Y g 25 #[.string s, .int .i64 d, .int .i64 j, .slice A L.length c] by rw [← hY, hh]; exact (Blk.new _ _ _).alloc _)
    rw [← hh]
    clear hY hh
    have HO2 := hide (HO1.out.trans HY.out)
    have HR2 := hide (HR1.out.only HY.out (fun _ h => h))
    clear HY HR1
    by_cases hE : E = 0
    case neg =>
      have q1 : (E != 0) = true := bne_iff_ne.2 hE
      clear hE HG1
      go_wp2_with fail
      refine (HLv.out _ HO2.out).mono ?_
      rintro e V99 ⟨rfl, ho9⟩
      have HO99 := hide (HO2.out.trans ho9)
      clear ho9
      go_wp2_with fail
      go_ret
      exact ⟨rfl, HO99.out⟩
    case pos =>
      have q1 : (E != 0) = false := by rw [hE]; rfl
      have hgd := HG1.out hE
      clear hE HG1
      obtain ⟨l1, l2, l3, l4⟩ := good_opz hgd
      have HLz := hide l4
      have HAr := hide (good_arms hgd)
      obtain ⟨P, hP⟩ : ∃ P, P = progM s d j L := ⟨_, rfl⟩
      have HSh := hide (fun (L' : List OpV) (A' : Option Addr) (c' : Nat) (w' : World) (h2 : OpsRd w' NoBlk A' L') (hm : L'.map (·.o) = P.ops) (k : Only NoBlk w w') => show Calls Tryz.prog 35 #[.agg #[.string s, .int .i64 d, .int .i64 j, .slice A' L'.length c']] w' fun e w9 => e = .returned (.tuple #[.string ⟨(progT P).toArray⟩, .int .i64 0]) ∧ Only NoBlk w' w9 from by
        have e1 : progM s d j L' = P := by rw [hP]; unfold progM; rw [hm, hP]; rfl
        have hg' := hgd
        rw [← hP, ← e1] at hg'
        obtain ⟨n1, n2, n3, n4⟩ := good_opz hg'
        have := sProg_c s d j A' c' L' w' h2 n2 n3 n4 (HTb.out _ k)
        rw [hg', if_pos rfl, if_pos rfl, e1] at this
        exact this)
      rw [← hP] at hgd
      have HPar := hide (fun (w' : World) (k : Only NoBlk w w') => pprog_c P hgd w' (HVb.out _ k))
      have hPn : P.name = s := by rw [hP]; rfl
      have hPd : P.deadline = d := by rw [hP]; rfl
      have hPj : P.jumps = j := by rw [hP]; rfl
      rw [hPn, hPd, hPj] at HPar
      have HPo := hide (show L.map (·.o) = P.ops by rw [hP]; rfl)
      have HS1 := hide (HSh.out L A c Y HR2.out HPo.out HO2.out)
      clear hPn hPd hPj hgd hP l2 l3 l4
      obtain ⟨X, hX⟩ : ∃ X, X = (⟨(progT P).toArray⟩ : ByteArray) := ⟨_, rfl⟩
      rw [← hX] at HPar HSh HS1
      clear hX
      obtain ⟨m, hm⟩ : ∃ m, m = L.length := ⟨_, rfl⟩
      have Hm := hide hm
      rw [← hm] at HP HS1 l1
      try rw [← hm]
      clear hm
      obtain ⟨⟨g0, g1, g2, g3⟩, _⟩ := HP.out.four
      go_wp2_with fail
      refine HS1.out.mono ?_
      rintro e V3 ⟨rfl, k3⟩
      have HO3 := hide (HO2.out.trans k3)
      have HP3 := hide (HP.out.only k3 (fun h => h))
      have HR3 := hide (HR2.out.only k3 (fun _ h => h))
      clear k3 g0 g1 g2 g3 HS1
      go_wp2_with fail
      refine (HPar.out _ HO3.out).mono ?_
      rintro e V4 ⟨⟨A4, c4, L4, rfl, hL4, hr4⟩, k4⟩
      have HO4 := hide (HO3.out.trans k4)
      have HP4 := hide (HP3.out.only k4 (fun h => h))
      have HR4 := hide (HR3.out.only k4 (fun _ h => h))
      have HQ4 := hide hr4
      have HL4 := hide hL4
      clear k4 hr4 hL4
      go_upto_region 8 with fail
      generalize hY : World.alloc (World.alloc V4 _) _ = Y2
      obtain ⟨h, hh⟩ : ∃ h, h = V4.heap.size := ⟨_, rfl⟩
      have HY := hide (show Only NoBlk V4 Y2 by rw [← hY]; exact ((Only.refl _ V4).alloc _).alloc _)
      have HH := hide (show Blk Y2 h 25 #[.string s, .int .i64 d, .int .i64 j, .slice A4 L4.length c4] by rw [← hY, hh]; exact (Blk.new _ _ _).alloc _)
      rw [← hh]
      clear hY hh
      have HO5 := hide (HO4.out.trans HY.out)
      have HP5 := hide (HP4.out.only HY.out (fun h => h))
      have HR5 := hide (HR4.out.only HY.out (fun _ h => h))
      have HQ5 := hide (HQ4.out.only HY.out (fun _ h => h))
      have HS2 := hide (HSh.out L4 A4 c4 Y2 HQ5.out HL4.out HO5.out)
      obtain ⟨⟨h0, h1, h2, h3⟩, _⟩ := HH.out.four
      go_wp2_with fail
      refine HS2.out.mono ?_
      rintro e V6 ⟨rfl, k6⟩
      have HO6 := hide (HO5.out.trans k6)
      have HP6 := hide (HP5.out.only k6 (fun h => h))
      have HH6 := hide (HH.out.only k6 (fun h => h))
      have HSm := hide (refSame_c s d j A A4 c c4 L L4 V6 (HR5.out.only k6 (fun _ h => h)) (HQ5.out.only k6 (fun _ h => h)) (HPo.out.trans HL4.out.symm) (by have := Hm.out; omega) HAr.out)
      rw [← Hm.out] at HSm
      clear k6 h0 h1 h2 h3
      obtain ⟨⟨g0, g1, g2, g3⟩, _⟩ := HP6.out.four
      obtain ⟨⟨h0, h1, h2, h3⟩, _⟩ := HH6.out.four
      have q9 : (X.toList == X.toList) = true := by simp
      go_wp2_with fail
      refine HSm.out.mono ?_
      rintro e V7 ⟨rfl, k7⟩
      have HO7 := hide (HO6.out.trans k7)
      clear k7 g0 g1 g2 g3 h0 h1 h2 h3
      go_wp2_with fail
      refine (HLv.out _ HO7.out).mono ?_
      rintro e V99 ⟨rfl, ho9⟩
      have HO99 := hide (HO7.out.trans ho9)
      clear ho9
      go_wp2_with fail
      go_ret
      exact ⟨rfl, HO99.out⟩
end Go.Proofs.YtaioaojfdngfdaaGreatDoor
