/- The law ParseLines, walked. Conditions: those of each theorem. -/
import Derived.Test.YtaioaojfdngfdaaGreatDoorReg
import Derived.BigRegion
namespace Go.Proofs.YtaioaojfdngfdaaGreatDoor
open Go.RowKit
set_option linter.unusedVariables false
set_option linter.unusedSimpArgs false
theorem parse_none (s : List UInt8) (h : (parseM s).2.2 ≠ 0) : (parseM s).1 = noProg := by
  unfold parseM endP at h ⊢
  split
  · rfl
  · split
    · rfl
    · split
      · next heq => rw [if_neg (by assumption), if_neg (by assumption), heq] at h; exact absurd rfl h
      · rfl
theorem tame {P : ProgM} {E : Int} {L : List OpV} (hL : L.map (·.o) = P.ops) (hg : E = 0 → goodM P = true) (hn : E ≠ 0 → P = noProg) :
    L.length ≤ 200 ∧ (∀ v ∈ L, v.o.arms.length ≤ 100) ∧ (E = 0 → goodM (progM P.name P.deadline P.jumps L) = true ∧ P.name.size ≤ 16 ∧ ∀ v ∈ L, OpSz v) := by
  by_cases hE : E = 0
  · have h1 : goodM (progM P.name P.deadline P.jumps L) = true := by
      have e : progM P.name P.deadline P.jumps L = P := by unfold progM; rw [hL]
      rw [e]; exact hg hE
    obtain ⟨h2, h3, h4⟩ := good_sz h1
    have h5 : ∀ v ∈ L, v.o.arms.length ≤ 100 ∧ v.o.text.size ≤ 256 ∧ ∀ a ∈ v.o.arms, a.pat.size ≤ 64 := fun v hv => h4 v.o (List.mem_map.2 ⟨v, hv, rfl⟩)
    exact ⟨by simpa [progM] using h2, fun v hv => (h5 v hv).1, fun _ => ⟨h1, h3, fun v hv => ⟨Nat.le_trans (h5 v hv).2.1 (by decide), Nat.le_trans (h5 v hv).1 (by simp [maxLen]), fun a ha => Nat.le_trans ((h5 v hv).2.2 a ha) (by decide)⟩⟩⟩
  · have e : L = [] := by
      have := hn hE
      rw [this] at hL
      exact List.map_eq_nil_iff.1 hL
    subst e
    exact ⟨by simp, fun v hv => (by cases hv), fun h => absurd h hE⟩
theorem OpsRd.monoP {w : World} {M M' : Nat → Prop} {A : Option Addr} {L : List OpV} (h : OpsRd w M A L) (hm : ∀ b, M' b → M b) : OpsRd w M' A L := ⟨h.1.mono hm, fun v hv => (h.2 v hv).mono hm⟩
theorem head_c (w : World) : Calls Tryz.prog 19 #[] w fun e w' => (∃ t : ByteArray, e = .returned (.string t) ∧ t.size = 17) ∧ w' = w :=
  (head14_c w).mono fun e w' ⟨h, k⟩ => ⟨⟨_, h, rfl⟩, k⟩
theorem line_sz (s : ByteArray) (h : s.size ≤ 120) : (bs ((linesM s.data.toList).getD 0 [])).size ≤ 120 := by
  have h1 := linesM_sz s.data.toList 0
  have h2 : s.data.toList.length = s.size := by simp
  show ((linesM s.data.toList).getD 0 []).length ≤ 120
  omega
set_option maxRecDepth 100000 in
set_option maxHeartbeats 12800000 in
theorem ParseLines_walk (s0 s1 : ByteArray) (w : World) (hs0 : s0.size ≤ 9223372036854775807) (hs1 : s1.size ≤ 9223372036854775807) (hv : Vars w) : Calls Tryz.prog 4 #[.string s0, .string s1] w fun e w' => e = .returned (.bool true) ∧ Only NoBlk w w' := by
  have HV := hide hv
  have HCt := hide (fun (X : World) => cut02_c s0 120 X hs0)
  have HCt' := hide (fun (X : World) => cut02_c s1 120 X hs1)
  have HHd := hide head_c
  clear hv hs0 hs1
  go_enter Tryz.func4, Tryz.ntmps4
  go_upto_region 1 with fail
  refine wp_region_held (S := fun _ => True) (by kernel_rfl) ?_
  change wpAnyH _ _ _ _ _ _ _ _ w.drew
  obtain ⟨V0, hV0⟩ : ∃ V0, V0 = w.drew := ⟨_, rfl⟩
  have K0 := hide (show Only NoBlk w V0 by rw [hV0]; exact (Only.refl _ w).drew)
  have hHeld : True := trivial
  rw [← hV0]
  simp only [List.size_toArray, List.length_cons, List.length_nil, Nat.zero_add, Nat.reduceAdd]
  clear hV0
  refine tk 0 ?_ rfl ?_ ?_
  rotate_left
  · (intro w9 hS9; (try simp only [ga]); go_simp <;> rfl)
  try simp only [Act.put, gp]
  refine tk 5 ?_ rfl ?_ ?_
  rotate_left
  · (intro w9 hS9; (try simp only [ga]); go_simp <;> rfl)
  try simp only [Act.put, gp]
  refine rdy 1 rfl (fun K hK => ?_)
  try simp only [ga]
  try go_simp
  refine (HCt.out _).mono ?_
  rintro e V1 ⟨⟨t0, rfl, ht0⟩, rfl⟩
  refine hK.out _ _ trivial (fun hHeld => ?_)
  clear hK K
  try simp only [Act.put, gp]
  refine rdy 2 rfl (fun K hK => ?_)
  try simp only [ga]
  try go_simp
  refine (refLines_q t0 _ (by omega)).mono ?_
  rintro e V2 ⟨⟨A1, c1, rfl, ho1⟩, k1⟩
  have K1 := hide (K0.out.trans (Only.of_below k1 _))
  obtain ⟨b1, o1, rfl, hb1, hc1⟩ := line_cell ho1 0 (linesM_pos _)
  have hq1 := linesM_pos t0.data.toList
  have hC1 := hc1 0 hq1
  have hZ0 := line_sz t0 ht0
  obtain ⟨l0, hl0⟩ : ∃ l0, l0 = bs ((linesM t0.data.toList).getD 0 []) := ⟨_, rfl⟩
  obtain ⟨n1, hn1⟩ : ∃ n1, n1 = (linesM t0.data.toList).length := ⟨_, rfl⟩
  rw [← hl0] at hC1 hZ0
  rw [← hn1] at hq1
  rw [← hn1]
  have HZ0 := hide hZ0
  simp only [Nat.add_zero] at hC1
  clear ho1 k1 hc1 hl0 hn1 hZ0 ht0
  refine hK.out _ _ trivial (fun hHeld => ?_)
  clear hK K
  try simp only [Act.put, gp]
  refine wpAnyH_strong (S' := fun X => X.cell? ⟨b1, o1, none⟩ = some (.string l0)) (fun _ _ => trivial) _ _ _ _ ?_
  clear hHeld
  have hHeld : V2.cell? ⟨b1, o1, none⟩ = some (.string l0) := hC1
  clear hC1
  refine tk 3 ?_ rfl ?_ ?_
  rotate_left
  · (intro w9 hS9; (try simp only [ga]); go_simp <;> rfl)
  try simp only [Act.put, gp]
  refine tk 4 ?_ rfl ?_ ?_
  rotate_left
  · (intro w9 hS9; (try simp only [ga]); go_simp <;> rfl)
  try simp only [Act.put, gp]
  refine rdy 6 rfl (fun K hK => ?_)
  try simp only [ga]
  try go_simp
  refine (HCt'.out _).mono ?_
  rintro e V1 ⟨⟨t1, rfl, ht1⟩, rfl⟩
  refine hK.out _ _ (by assumption) (fun hHeld => ?_)
  clear hK K
  try simp only [Act.put, gp]
  refine rdy 7 rfl (fun K hK => ?_)
  try simp only [ga]
  try go_simp
  refine (refLines_q t1 _ (by omega)).mono ?_
  rintro e V3 ⟨⟨A2, c2, rfl, ho2⟩, k2⟩
  have K2 := hide (K1.out.trans (Only.of_below k2 _))
  have hHeld2 := okeep (Only.of_below k2 NoBlk) (fun h => h) hHeld
  obtain ⟨b2, o2, rfl, hb2, hc2⟩ := line_cell ho2 0 (linesM_pos _)
  have hq2 := linesM_pos t1.data.toList
  have hC2 := hc2 0 hq2
  have hZ1 := line_sz t1 ht1
  obtain ⟨l1, hl1⟩ : ∃ l1, l1 = bs ((linesM t1.data.toList).getD 0 []) := ⟨_, rfl⟩
  obtain ⟨n2, hn2⟩ : ∃ n2, n2 = (linesM t1.data.toList).length := ⟨_, rfl⟩
  rw [← hl1] at hC2 hZ1
  rw [← hn2] at hq2
  rw [← hn2]
  have HZ1 := hide hZ1
  simp only [Nat.add_zero] at hC2
  clear ho2 k2 hc2 hl1 hn2 hZ1 ht1 hHeld
  refine hK.out _ _ hHeld2 (fun hHeld => ?_)
  clear hK K
  try simp only [Act.put, gp]
  refine wpAnyH_strong (S' := fun X => X.cell? ⟨b1, o1, none⟩ = some (.string l0) ∧ X.cell? ⟨b2, o2, none⟩ = some (.string l1)) (fun _ h => h.1) _ _ _ _ ?_
  clear hHeld
  have hHeld : V3.cell? ⟨b1, o1, none⟩ = some (.string l0) ∧ V3.cell? ⟨b2, o2, none⟩ = some (.string l1) := ⟨hHeld2, hC2⟩
  clear hC2 hHeld2
  refine tk 8 ?_ rfl ?_ ?_
  rotate_left
  · (intro w9 hS9; (try simp only [ga]); go_simp <;> rfl)
  try simp only [Act.put, gp]
  refine tk 9 ?_ rfl ?_ ?_
  rotate_left
  · (intro w9 hS9; (try simp only [ga]); go_simp <;> rfl)
  try simp only [Act.put, gp]
  refine tk 10 ?_ rfl ?_ ?_
  rotate_left
  · (intro w9 hS9; (try simp only [ga]); go_simp <;> rfl)
  try simp only [Act.put, gp]
  refine tk 11 ?_ rfl ?_ ?_
  rotate_left
  · (intro w9 hS9; (try simp only [ga]); go_simp <;> rfl)
  try simp only [Act.put, gp]
  refine wpAnyH_done (by kernel_rfl) ?_ _
  try simp only [Exit.then]
  clear hHeld hq1 hq2 hb1 hb2 HCt HCt' K0 K1
  go_wp2_with fail
  refine (HHd.out _).mono ?_
  rintro e V4 ⟨⟨hd, rfl, hh⟩, hw4⟩
  obtain rfl := hw4.symm
  have hz0 := HZ0.out
  have hz1 := HZ1.out
  have z0 : hd.size + (⟨#[108, 97, 98, 101, 108, 32, 97, 10, 101, 120, 112, 101, 99, 116, 32, 53, 10]⟩ : ByteArray).size ≤ 9223372036854775807 := by rw [hh]; decide
  have s0 : (hd ++ (⟨#[108, 97, 98, 101, 108, 32, 97, 10, 101, 120, 112, 101, 99, 116, 32, 53, 10]⟩ : ByteArray)).size = 34 := by rw [ByteArray.size_append, hh]; rfl
  have z1 : (hd ++ (⟨#[108, 97, 98, 101, 108, 32, 97, 10, 101, 120, 112, 101, 99, 116, 32, 53, 10]⟩ : ByteArray)).size + l0.size ≤ 9223372036854775807 := by rw [s0]; omega
  have s1 : (hd ++ (⟨#[108, 97, 98, 101, 108, 32, 97, 10, 101, 120, 112, 101, 99, 116, 32, 53, 10]⟩ : ByteArray) ++ l0).size ≤ 200 := by rw [ByteArray.size_append, s0]; omega
  have z2 : (hd ++ (⟨#[108, 97, 98, 101, 108, 32, 97, 10, 101, 120, 112, 101, 99, 116, 32, 53, 10]⟩ : ByteArray) ++ l0).size + (⟨#[10]⟩ : ByteArray).size ≤ 9223372036854775807 := by have : (⟨#[10]⟩ : ByteArray).size = 1 := rfl; omega
  have s2 : (hd ++ (⟨#[108, 97, 98, 101, 108, 32, 97, 10, 101, 120, 112, 101, 99, 116, 32, 53, 10]⟩ : ByteArray) ++ l0 ++ (⟨#[10]⟩ : ByteArray)).size ≤ 201 := by rw [ByteArray.size_append]; have : (⟨#[10]⟩ : ByteArray).size = 1 := rfl; omega
  have z3 : (hd ++ (⟨#[108, 97, 98, 101, 108, 32, 97, 10, 101, 120, 112, 101, 99, 116, 32, 53, 10]⟩ : ByteArray) ++ l0 ++ (⟨#[10]⟩ : ByteArray)).size + l1.size ≤ 9223372036854775807 := by omega
  have s3 : (hd ++ (⟨#[108, 97, 98, 101, 108, 32, 97, 10, 101, 120, 112, 101, 99, 116, 32, 53, 10]⟩ : ByteArray) ++ l0 ++ (⟨#[10]⟩ : ByteArray) ++ l1).size ≤ 700 := by rw [ByteArray.size_append]; omega
  go_upto_region 3 with fail
  generalize hd ++ (⟨#[108, 97, 98, 101, 108, 32, 97, 10, 101, 120, 112, 101, 99, 116, 32, 53, 10]⟩ : ByteArray) ++ l0 ++ (⟨#[10]⟩ : ByteArray) ++ l1 = t at s3 ⊢
  have ht : t.size ≤ 700 := s3
  clear z0 z1 z2 z3 s0 s1 s2 s3 hz0 hz1 HZ0 HZ1 HHd hh
  have HK2 := hide K2.out
  have HVx := hide (HV.out.only K2.out)
  clear K2
  have HP1 := hide (fun (X : World) (k : Only NoBlk V3 X) => pparse_c t X (by omega) (HVx.out.only k).len (HVx.out.only k).err (HVx.out.only k).lt)
  have HP2 := hide (fun (X : World) => refParse14_c t X (by omega))
  rw [← parse_same] at HP2
  obtain ⟨P, hP⟩ : ∃ P, P = parseM t.data.toList := ⟨_, rfl⟩
  have HT := hide (fun (L : List OpV) (hL : L.map (·.o) = P.1.ops) => tame (E := P.2.2) hL (fun h => by rw [hP] at h ⊢; rw [parse_same] at h ⊢; exact parseD_good _ h) (fun h => by rw [hP] at h ⊢; exact parse_none _ h))
  rw [← hP] at HP1 HP2
  clear hP ht
  obtain ⟨⟨nm, dl, jm, ops⟩, ⟨x, y⟩, E⟩ := P
  simp only at HP1 HP2 HT
  go_wp2_with fail
  refine (HP1.out _ (Only.refl _ _)).mono ?_
  rintro e w1 ⟨⟨A1, c1, L1, rfl, hL1, ho1⟩, k1⟩
  have HO1 := hide (show OpsRd w1 NoBlk A1 L1 from ho1.monoP (fun _ h => False.elim h))
  have K1 := hide k1
  clear ho1 k1
  go_wp2_with fail
  generalize hX : World.alloc (World.alloc w1 _) _ = X
  obtain ⟨g, hg⟩ : ∃ g, g = w1.heap.size := ⟨_, rfl⟩
  have HX1 := hide (show Only NoBlk w1 X by rw [← hX]; exact ((Only.refl _ w1).alloc _).alloc _)
  have HG := hide (show Blk X g 25 #[.string nm, .int .i64 dl, .int .i64 jm, .slice A1 L1.length c1] by rw [← hX, hg]; exact (Blk.new _ _ _).alloc _)
  have HG' := hide (show Blk X (g + 1) 27 #[.int .i64 x, .int .i64 y] by rw [← hX, hg]; exact Blk.new' (by simp))
  rw [← hg]
  clear hX hg
  refine (HP2.out X).mono ?_
  rintro e w2 ⟨⟨A2, c2, L2, rfl, hL2, ho2⟩, k2⟩
  have HO2 := hide (show OpsRd w2 NoBlk A2 L2 from ho2.monoP (fun _ h => False.elim h))
  have HX2 := hide (HX1.out.trans k2)
  have HG2 := hide (HG.out.only k2 (fun h => h))
  have HG2' := hide (HG'.out.only k2 (fun h => h))
  clear k2 ho2
  go_upto_region 5 with fail
  generalize hY : World.alloc (World.alloc w2 _) _ = Y
  obtain ⟨h, hh⟩ : ∃ h, h = w2.heap.size := ⟨_, rfl⟩
  have HY2 := hide (show Only NoBlk w2 Y by rw [← hY]; exact ((Only.refl _ w2).alloc _).alloc _)
  have HH := hide (show Blk Y h 25 #[.string nm, .int .i64 dl, .int .i64 jm, .slice A2 L2.length c2] by rw [← hY, hh]; exact (Blk.new _ _ _).alloc _)
  have HH' := hide (show Blk Y (h + 1) 27 #[.int .i64 x, .int .i64 y] by rw [← hY, hh]; exact Blk.new' (by simp))
  rw [← hh]
  clear hY hh
  have HO1' := hide (HO1.out.only (HX2.out.trans HY2.out) (fun _ h => h))
  have HO2' := hide (HO2.out.only HY2.out (fun _ h => h))
  have HG3 := hide (HG2.out.only HY2.out (fun h => h))
  have HG3' := hide (HG2'.out.only HY2.out (fun h => h))
  have KY := hide (K1.out.trans (HX2.out.trans HY2.out))
  obtain ⟨b1, b2, b3⟩ := HT.out L1 hL1
  have HSm := hide (refSame_c nm dl jm A1 A2 c1 c2 L1 L2 Y HO1'.out HO2'.out (hL1.trans hL2.symm) (by omega) (fun v hv => by have := b2 v hv; omega))
  have HGd := hide (fun (X : World) (k : Only NoBlk Y X) (hE : E = 0) => refGood_c nm dl jm A1 c1 L1 X (HO1'.out.only k (fun _ h => h)) (Nat.le_trans b1 (by simp [maxLen])) (Nat.le_trans (b3 hE).2.1 (by decide)) (b3 hE).2.2)
  have HGt := hide (fun (hE : E = 0) => (b3 hE).1)
  have HLv := hide (fun (X : World) (k : Only NoBlk V3 X) => lives14_c X (HVx.out.only k))
  clear b1 b2 b3 HT HP1 HP2 HO1 HO2 HX1 HX2 HG HG' HG2 HG2' HY2 HV HO1' HO2' hL1 hL2 K1
  obtain ⟨⟨g0, g1, g2, g3⟩, _⟩ := HG3.out.four
  obtain ⟨⟨h0, h1, h2, h3⟩, _⟩ := HH.out.four
  by_cases hE : E = 0
  case pos =>
    have q1 : (E != 0) = false := by rw [hE]; rfl
    have HGd' := hide (fun (X : World) (k : Only NoBlk Y X) => HGd.out X k hE)
    rw [HGt.out hE] at HGd'
    clear hE HGd HGt
    go_wp2_with fail
    refine HSm.out.mono ?_
    rintro e w3 ⟨rfl, k3⟩
    have K3 := hide (KY.out.trans k3)
    have KZ := hide k3
    have HGw := hide (HG3.out.only k3 (fun h => h))
    have s0 : w3.cell? ⟨g + 1, 0, none⟩ = some (.int .i64 x) := (HG3'.out.only k3 (fun h => h)).cell 0
    have s1 : w3.cell? ⟨g + 1, 1, none⟩ = some (.int .i64 y) := (HG3'.out.only k3 (fun h => h)).cell 1
    have s2 : w3.cell? ⟨h + 1, 0, none⟩ = some (.int .i64 x) := (HH'.out.only k3 (fun h => h)).cell 0
    have s3 : w3.cell? ⟨h + 1, 1, none⟩ = some (.int .i64 y) := (HH'.out.only k3 (fun h => h)).cell 1
    clear k3 g0 g1 g2 g3 h0 h1 h2 h3
    obtain ⟨⟨g0, g1, g2, g3⟩, _⟩ := HGw.out.four
    go_wp2_with fail
    refine (HLv.out w3 K3.out).mono ?_
    rintro e w5 ⟨rfl, k5⟩
    have K5 := hide (K3.out.trans k5)
    clear k5
    go_wp2_with fail
    refine bodyPost_ret (v := .bool true) (by simp [results, Tryz.results4, go_sem]; try rfl) rfl ?_
    exact ⟨rfl, HK2.out.trans K5.out⟩
  case neg =>
    have q1 : (E != 0) = true := bne_iff_ne.2 hE
    clear hE HGd HGt
    go_wp2_with fail
    refine HSm.out.mono ?_
    rintro e w3 ⟨rfl, k3⟩
    have K3 := hide (KY.out.trans k3)
    have KZ := hide k3
    have HGw := hide (HG3.out.only k3 (fun h => h))
    have s0 : w3.cell? ⟨g + 1, 0, none⟩ = some (.int .i64 x) := (HG3'.out.only k3 (fun h => h)).cell 0
    have s1 : w3.cell? ⟨g + 1, 1, none⟩ = some (.int .i64 y) := (HG3'.out.only k3 (fun h => h)).cell 1
    have s2 : w3.cell? ⟨h + 1, 0, none⟩ = some (.int .i64 x) := (HH'.out.only k3 (fun h => h)).cell 0
    have s3 : w3.cell? ⟨h + 1, 1, none⟩ = some (.int .i64 y) := (HH'.out.only k3 (fun h => h)).cell 1
    clear k3 g0 g1 g2 g3 h0 h1 h2 h3
    obtain ⟨⟨g0, g1, g2, g3⟩, _⟩ := HGw.out.four
    go_wp2_with fail
    refine (HLv.out w3 K3.out).mono ?_
    rintro e w5 ⟨rfl, k5⟩
    have K5 := hide (K3.out.trans k5)
    clear k5
    go_wp2_with fail
    refine bodyPost_ret (v := .bool true) (by simp [results, Tryz.results4, go_sem]; try rfl) rfl ?_
    exact ⟨rfl, HK2.out.trans K5.out⟩
end Go.Proofs.YtaioaojfdngfdaaGreatDoor
