/- The law ParseReads, walked. Conditions: those of each theorem. -/
import Derived.Test.YtaioaojfdngfdaaGreatDoorPb48
import Derived.BigRegion
namespace Go.Proofs.YtaioaojfdngfdaaGreatDoor
open Go.RowKit
set_option linter.unusedVariables false
set_option linter.unusedSimpArgs false
theorem parse_none (s : List UInt8) (h : (parseM s).2.2 ≠ 0) : (parseM s).1 = noProg := by
  unfold parseM endP at h ⊢
  split
  · rfl
  · split
    · rfl
    · split
      · next heq => rw [if_neg (by assumption), if_neg (by assumption), heq] at h; exact absurd rfl h
      · rfl
theorem tame {P : ProgM} {E : Int} {L : List OpV} (hL : L.map (·.o) = P.ops) (hg : E = 0 → goodM P = true) (hn : E ≠ 0 → P = noProg) :
    L.length ≤ 200 ∧ (∀ v ∈ L, v.o.arms.length ≤ 100) ∧ (E = 0 → goodM (progM P.name P.deadline P.jumps L) = true ∧ P.name.size ≤ 16 ∧ ∀ v ∈ L, OpSz v) := by
  by_cases hE : E = 0
  · have h1 : goodM (progM P.name P.deadline P.jumps L) = true := by
      have e : progM P.name P.deadline P.jumps L = P := by unfold progM; rw [hL]
      rw [e]; exact hg hE
    obtain ⟨h2, h3, h4⟩ := good_sz h1
    have h5 : ∀ v ∈ L, v.o.arms.length ≤ 100 ∧ v.o.text.size ≤ 256 ∧ ∀ a ∈ v.o.arms, a.pat.size ≤ 64 := fun v hv => h4 v.o (List.mem_map.2 ⟨v, hv, rfl⟩)
    exact ⟨by simpa [progM] using h2, fun v hv => (h5 v hv).1, fun _ => ⟨h1, h3, fun v hv => ⟨Nat.le_trans (h5 v hv).2.1 (by decide), Nat.le_trans (h5 v hv).1 (by simp [maxLen]), fun a ha => Nat.le_trans ((h5 v hv).2.2 a ha) (by decide)⟩⟩⟩
  · have e : L = [] := by
      have := hn hE
      rw [this] at hL
      exact List.map_eq_nil_iff.1 hL
    subst e
    exact ⟨by simp, fun v hv => (by cases hv), fun h => absurd h hE⟩
theorem OpsRd.monoP {w : World} {M M' : Nat → Prop} {A : Option Addr} {L : List OpV} (h : OpsRd w M A L) (hm : ∀ b, M' b → M b) : OpsRd w M' A L := ⟨h.1.mono hm, fun v hv => (h.2 v hv).mono hm⟩
set_option maxRecDepth 100000 in
set_option maxHeartbeats 12800000 in
theorem ParseReads_walk (s : ByteArray) (w : World) (hs : s.size ≤ 9223372036854775807) (hv : Vars w) : Calls Tryz.prog 3 #[.string s] w fun e w' => e = .returned (.bool true) ∧ Only NoBlk w w' := by
  have HV := hide hv
  have HCt := hide (cut02_c s 700 w hs)
  clear hv
  go_enter Tryz.func3, Tryz.ntmps3
  go_wp2_with fail
  refine HCt.out.mono ?_
  rintro e wz ⟨⟨t, rfl, ht⟩, rfl⟩
  have HP1 := hide (fun (X : World) (k : Only NoBlk wz X) => pparse_c t X (by omega) (HV.out.only k).len (HV.out.only k).err (HV.out.only k).lt)
  have HP2 := hide (fun (X : World) => refParse14_c t X (by omega))
  rw [← parse_same] at HP2
  obtain ⟨P, hP⟩ : ∃ P, P = parseM t.data.toList := ⟨_, rfl⟩
  have HT := hide (fun (L : List OpV) (hL : L.map (·.o) = P.1.ops) => tame (E := P.2.2) hL (fun h => by rw [hP] at h ⊢; rw [parse_same] at h ⊢; exact parseD_good _ h) (fun h => by rw [hP] at h ⊢; exact parse_none _ h))
  rw [← hP] at HP1 HP2
  clear hP ht HCt
  obtain ⟨⟨nm, dl, jm, ops⟩, ⟨x, y⟩, E⟩ := P
  simp only at HP1 HP2 HT
  go_wp2_with fail
  refine (HP1.out _ (Only.refl _ _)).mono ?_
  rintro e w1 ⟨⟨A1, c1, L1, rfl, hL1, ho1⟩, k1⟩
  have HO1 := hide (show OpsRd w1 NoBlk A1 L1 from ho1.monoP (fun _ h => False.elim h))
  have K1 := hide k1
  clear ho1 k1
  go_wp2_with fail
  generalize hX : World.alloc (World.alloc w1 _) _ = X
  obtain ⟨g, hg⟩ : ∃ g, g = w1.heap.size := ⟨_, rfl⟩
  have HX1 := hide (show Only NoBlk w1 X by rw [← hX]; exact ((Only.refl _ w1).alloc _).alloc _)
  have HG := hide (show Blk X g 25 #[.string nm, .int .i64 dl, .int .i64 jm, .slice A1 L1.length c1] by rw [← hX, hg]; exact (Blk.new _ _ _).alloc _)
  have HG' := hide (show Blk X (g + 1) 27 #[.int .i64 x, .int .i64 y] by rw [← hX, hg]; exact Blk.new' (by simp))
  rw [← hg]
  clear hX hg
  refine (HP2.out X).mono ?_
  rintro e w2 ⟨⟨A2, c2, L2, rfl, hL2, ho2⟩, k2⟩
  have HO2 := hide (show OpsRd w2 NoBlk A2 L2 from ho2.monoP (fun _ h => False.elim h))
  have HX2 := hide (HX1.out.trans k2)
  have HG2 := hide (HG.out.only k2 (fun h => h))
  have HG2' := hide (HG'.out.only k2 (fun h => h))
  clear k2 ho2
  go_upto_region 4 with fail
  generalize hY : World.alloc (World.alloc w2 _) _ = Y
  obtain ⟨h, hh⟩ : ∃ h, h = w2.heap.size := ⟨_, rfl⟩
  have HY2 := hide (show Only NoBlk w2 Y by rw [← hY]; exact ((Only.refl _ w2).alloc _).alloc _)
  have HH := hide (show Blk Y h 25 #[.string nm, .int .i64 dl, .int .i64 jm, .slice A2 L2.length c2] by rw [← hY, hh]; exact (Blk.new _ _ _).alloc _)
  have HH' := hide (show Blk Y (h + 1) 27 #[.int .i64 x, .int .i64 y] by rw [← hY, hh]; exact Blk.new' (by simp))
  rw [← hh]
  clear hY hh
  have HO1' := hide (HO1.out.only (HX2.out.trans HY2.out) (fun _ h => h))
  have HO2' := hide (HO2.out.only HY2.out (fun _ h => h))
  have HG3 := hide (HG2.out.only HY2.out (fun h => h))
  have HG3' := hide (HG2'.out.only HY2.out (fun h => h))
  have KY := hide (K1.out.trans (HX2.out.trans HY2.out))
  obtain ⟨b1, b2, b3⟩ := HT.out L1 hL1
  have HSm := hide (refSame_c nm dl jm A1 A2 c1 c2 L1 L2 Y HO1'.out HO2'.out (hL1.trans hL2.symm) (by omega) (fun v hv => by have := b2 v hv; omega))
  have HGd := hide (fun (X : World) (k : Only NoBlk Y X) (hE : E = 0) => refGood_c nm dl jm A1 c1 L1 X (HO1'.out.only k (fun _ h => h)) (Nat.le_trans b1 (by simp [maxLen])) (Nat.le_trans (b3 hE).2.1 (by decide)) (b3 hE).2.2)
  have HGt := hide (fun (hE : E = 0) => (b3 hE).1)
  have HLv := hide (fun (X : World) (k : Only NoBlk wz X) => lives14_c X (HV.out.only k))
  clear b1 b2 b3 HT HP1 HP2 HO1 HO2 HX1 HX2 HG HG' HG2 HG2' HY2 HV HO1' HO2' hL1 hL2 K1
  obtain ⟨⟨g0, g1, g2, g3⟩, _⟩ := HG3.out.four
  obtain ⟨⟨h0, h1, h2, h3⟩, _⟩ := HH.out.four
  by_cases hE : E = 0
  case pos =>
    have q1 : (E != 0) = false := by rw [hE]; rfl
    have HGd' := hide (fun (X : World) (k : Only NoBlk Y X) => HGd.out X k hE)
    rw [HGt.out hE] at HGd'
    clear hE HGd HGt
    go_wp2_with fail
    refine HSm.out.mono ?_
    rintro e w3 ⟨rfl, k3⟩
    have K3 := hide (KY.out.trans k3)
    have KZ := hide k3
    have HGw := hide (HG3.out.only k3 (fun h => h))
    have s0 : w3.cell? ⟨g + 1, 0, none⟩ = some (.int .i64 x) := (HG3'.out.only k3 (fun h => h)).cell 0
    have s1 : w3.cell? ⟨g + 1, 1, none⟩ = some (.int .i64 y) := (HG3'.out.only k3 (fun h => h)).cell 1
    have s2 : w3.cell? ⟨h + 1, 0, none⟩ = some (.int .i64 x) := (HH'.out.only k3 (fun h => h)).cell 0
    have s3 : w3.cell? ⟨h + 1, 1, none⟩ = some (.int .i64 y) := (HH'.out.only k3 (fun h => h)).cell 1
    clear k3 g0 g1 g2 g3 h0 h1 h2 h3
    obtain ⟨⟨g0, g1, g2, g3⟩, _⟩ := HGw.out.four
    go_wp2_with fail
    refine (HGd'.out w3 KZ.out).mono ?_
    rintro e w4 ⟨rfl, k4⟩
    have K4 := hide (K3.out.trans (Only.of_below k4 _))
    clear k4
    go_wp2_with fail
    refine (HLv.out w4 K4.out).mono ?_
    rintro e w5 ⟨rfl, k5⟩
    have K5 := hide (K4.out.trans k5)
    clear k5
    go_wp2_with fail
    refine bodyPost_ret (v := .bool true) (by simp [results, Tryz.results3, go_sem]; try rfl) rfl ?_
    exact ⟨rfl, K5.out⟩
  case neg =>
    have q1 : (E != 0) = true := bne_iff_ne.2 hE
    clear hE HGd HGt
    go_wp2_with fail
    refine HSm.out.mono ?_
    rintro e w3 ⟨rfl, k3⟩
    have K3 := hide (KY.out.trans k3)
    have KZ := hide k3
    have HGw := hide (HG3.out.only k3 (fun h => h))
    have s0 : w3.cell? ⟨g + 1, 0, none⟩ = some (.int .i64 x) := (HG3'.out.only k3 (fun h => h)).cell 0
    have s1 : w3.cell? ⟨g + 1, 1, none⟩ = some (.int .i64 y) := (HG3'.out.only k3 (fun h => h)).cell 1
    have s2 : w3.cell? ⟨h + 1, 0, none⟩ = some (.int .i64 x) := (HH'.out.only k3 (fun h => h)).cell 0
    have s3 : w3.cell? ⟨h + 1, 1, none⟩ = some (.int .i64 y) := (HH'.out.only k3 (fun h => h)).cell 1
    clear k3 g0 g1 g2 g3 h0 h1 h2 h3
    obtain ⟨⟨g0, g1, g2, g3⟩, _⟩ := HGw.out.four
    go_wp2_with fail
    refine (HLv.out w3 K3.out).mono ?_
    rintro e w5 ⟨rfl, k5⟩
    have K5 := hide (K3.out.trans k5)
    clear k5
    go_wp2_with fail
    refine bodyPost_ret (v := .bool true) (by simp [results, Tryz.results3, go_sem]; try rfl) rfl ?_
    exact ⟨rfl, K5.out⟩
end Go.Proofs.YtaioaojfdngfdaaGreatDoor
