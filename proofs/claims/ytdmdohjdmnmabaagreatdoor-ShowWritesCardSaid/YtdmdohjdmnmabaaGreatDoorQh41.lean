/- The ops to which a script jumps, by the document. Conditions: those of each theorem. -/
import Derived.Test.YtdmdohjdmnmabaaGreatDoorQh40
import Derived.Test.YtdmdohjdmnmabaaGreatDoorQh37
import Derived.Deep.RegionHeld3
namespace Go.Proofs.YtdmdohjdmnmabaaGreatDoor
open Go.RowKit Go.Sort
set_option linter.unusedVariables false
set_option linter.unusedSimpArgs false

theorem foldG_len (l : List Int) : ∀ s : List Int, (l.foldl insG s).length ≤ s.length + l.length := by
 induction l with
 | nil => intro s; simp
 | cons x r ih =>
  intro s
  have h1 := ih (insG s x)
  have h2 := insG_len s x
  rw [List.foldl_cons, List.length_cons]
  omega
/-- a list of ops to which one jumps, as the document holds it -/
structure DAt (w : World) (g1 c1 : Nat) (D : List Int) : Prop where
 rd : Rd w NoBlk (some ⟨g1, 0, none⟩) (flat encI D)
 le : D.length ≤ c1
theorem DAt.below {w w' : World} {g1 c1 : Nat} {D : List Int} (h : DAt w g1 c1 D) (k : Below w.heap.size w w') : DAt w' g1 c1 D := ⟨h.rd.below k, h.le⟩
theorem DAt.alloc {w : World} {g1 c1 : Nat} {D : List Int} (h : DAt w g1 c1 D) (o : Obj) : DAt (w.alloc o) g1 c1 D := ⟨h.rd.alloc o, h.le⟩
theorem add_d (g1 c1 : Nat) (D : List Int) (x : Int) (w : World) (h : DAt w g1 c1 D) (hn : D.length ≤ 100000) :
 Calls Tryz.prog 68 #[.slice (some ⟨g1, 0, none⟩) D.length c1, .int .i64 x] w fun e w' => (∃ g2 c2, e = .returned (.slice (some ⟨g2, 0, none⟩) (insG D x).length c2) ∧ DAt w' g2 c2 (insG D x)) ∧ Below w.heap.size w w' := by
 refine (refAdd_c g1 c1 D x w h.rd hn h.le).mono ?_
 rintro e w' ⟨⟨g2, c2, rfl, h1, h2⟩, hb⟩
 exact ⟨⟨g2, c2, rfl, ⟨h2, h1⟩⟩, hb⟩
set_option maxRecDepth 100000 in
set_option maxHeartbeats 25600000 in
theorem refTargets_c (s : ByteArray) (d j : Int) (PA : Option Addr) (pc : Nat) (L : List OpV) (w : World) (hr : OpsRd w NoBlk PA L) (hn : L.length ≤ 300) (ha : ∀ v ∈ L, v.o.arms.length ≤ 100) :
 Calls Tryz.prog 36 #[.agg #[.string s, .int .i64 d, .int .i64 j, .slice PA L.length pc]] w fun e w' => (∃ A1 c1, e = .returned (.slice A1 (tgts (L.map (·.o))).length c1) ∧ Rd w' NoBlk A1 (flat encI (tgts (L.map (·.o))))) ∧ Below w.heap.size w w' := by
 obtain ⟨W, hW⟩ : ∃ W, W = w.alloc (.cells #[.string s, .int .i64 d, .int .i64 j, .slice PA L.length pc] 24) := ⟨_, rfl⟩
 obtain ⟨g, hg⟩ : ∃ g, g = w.heap.size := ⟨_, rfl⟩
 have HB := hide (show Below g w W by rw [hW, hg]; exact below_alloc _ _)
 have HG := hide (show Blk W g 24 #[.string s, .int .i64 d, .int .i64 j, .slice PA L.length pc] by rw [hW, hg]; exact Blk.new _ _ _)
 have HRo := hide (fun (w' : World) (kk : Below g w w') (i : Nat) (hi : i < L.length) => op_cells (hr.bel hg kk).1 i hi)
 have HRa := hide (fun (w' : World) (kk : Below g w w') (i : Nat) (hi : i < L.length) => (hr.bel hg kk).2 _ (opAt_mem hi))
 have HAl := hide (fun (i : Nat) (hi : i < L.length) => ha _ (opAt_mem hi))
 obtain ⟨Gf, hGf⟩ : ∃ Gf : Nat → List Int, Gf = fun q => (jmpsL ((L.take q).map (·.o))).foldl insG [] := ⟨_, rfl⟩
 have HG0 := hide (show Gf 0 = [] by rw [hGf]; rfl)
 have HGs := hide (show ∀ q, q < L.length → Gf (q + 1) = (jumpsL (opAt L q).o).foldl insG (Gf q) from fun q hq => by
  rw [hGf]
  show (jmpsL ((L.take (q + 1)).map (·.o))).foldl insG [] = _
  rw [jmps_succ L q hq, List.foldl_append])
 have HGl := hide (show ∀ q, q ≤ L.length → (Gf q).length ≤ 102 * q from fun q hq => by
  have h1 := foldG_len (jmpsL ((L.take q).map (·.o))) []
  have h2 := jmps_len (l := (L.take q).map (·.o)) (fun o ho => by
   obtain ⟨v, hv, rfl⟩ := List.mem_map.1 ho
   exact ha v (List.mem_of_mem_take hv))
  rw [List.length_map, List.length_take, Nat.min_eq_left hq] at h2
  rw [hGf]
  simp only [List.length_nil] at h1
  show ((jmpsL ((L.take q).map (·.o))).foldl insG []).length ≤ _
  omega)
 have HGe := hide (show tgts (L.map (·.o)) = Gf L.length by rw [hGf]; show _ = (jmpsL ((L.take L.length).map (·.o))).foldl insG []; rw [List.take_length, tgts_ins])
 obtain ⟨T, hT⟩ : ∃ T, T = tgts (L.map (·.o)) := ⟨_, rfl⟩
 obtain ⟨m, hm⟩ : ∃ m, m = L.length := ⟨_, rfl⟩
 rw [← hT] at HGe ⊢
 rw [← hm] at hn HG hW HRo HRa HAl HGs HGl HGe ⊢
 rw [← hg]
 have c3 : W.cell? ⟨g, 3, none⟩ = some (.slice PA m pc) := by rw [HG.out.cell]; rfl
 have HW := hide hW
 have Hg := hide hg
 clear hr hW hg hm ha hT hGf
 go_enter Tryz.func36, Tryz.ntmps36
 go_upto_region 1 with fail
 change Code.wp _ _ _ _ (w.alloc (.cells #[.string s, .int .i64 d, .int .i64 j, .slice PA m pc] 24))
 rw [← HW.out, ← Hg.out]
 have HD0 := hide (show DAt (W.alloc (.cells #[] 3)) W.heap.size 0 (Gf 0) from ⟨by rw [HG0.out]; exact Rd.nil, by rw [HG0.out]; exact Nat.le_refl _⟩)
 have HB0 := hide (show Below g w (W.alloc (.cells #[] 3)) from HB.out.alloc (by have := HB.out.size; have := Hg.out; omega) _)
 have HP0 := hide (show Blk (W.alloc (.cells #[] 3)) g 24 #[.string s, .int .i64 d, .int .i64 j, .slice PA m pc] from HG.out.alloc _)
 have hl0 : (Gf 0).length = 0 := by rw [HG0.out]; rfl
 have HL0 := hide hl0
 clear hl0
 go_wp2_with fail
 go_loopw [3, 4] (fun v i wr => ∃ q g1 c1 : Nat, q ≤ m ∧ v = .slice (some ⟨g1, 0, none⟩) (Gf q).length c1 ∧ i = .int .i64 q ∧ Hid (DAt wr g1 c1 (Gf q)) ∧ Hid (Below g w wr) ∧ Hid (Blk wr g 24 #[.string s, .int .i64 d, .int .i64 j, .slice PA m pc])) (fun _ i _ => m - (intOf i).toNat)
 case atStart => exact ⟨0, _, 0, Nat.zero_le _, by rw [HL0.out], rfl, HD0, HB0, HP0⟩
 case round =>
  clear HB HG c3 HD0 HB0 HP0 HL0 HG0
  obtain ⟨q, g1, c1, hq, rfl, rfl, HD, HB, HG⟩ := hrel
  have w0 : IntKind.i64.wrap ((q : Int) + 1) = (q : Int) + 1 := IntWalk.i64_in _ (by omega)
  have c3 : wr.cell? ⟨g, 3, none⟩ = some (.slice PA m pc) := by rw [HG.out.cell]; rfl
  by_cases hlt : q < m
  case neg =>
   obtain rfl : q = m := by omega
   have d3 : decide ((q : Int) < (q : Int)) = false := by simp
   have d4 : decide (q < q) = false := by simp
   go_wp2_with fail
   go_ret
   exact ⟨⟨some ⟨g1, 0, none⟩, c1, by rw [HGe.out]; rfl, by rw [HGe.out]; exact HD.out.rd⟩, HB.out⟩
  case pos =>
   have d3 : decide ((q : Int) < (m : Int)) = true := by simp; exact hlt
   have d4 : decide (q < m) = true := by simp; exact hlt
   have j1 : (0 : Int) ≤ (q : Int) := by omega
   have j2 : (q : Int) < (m : Int) := by omega
   obtain ⟨ab, ao, hA, hab, a0, a1, a2, a3, a4, a5, a6⟩ := HRo.out _ HB.out q hlt
   have HGq := hide (HGs.out q hlt)
   have hgl := HGl.out q (by omega)
   have HRq := hide (fun (w' : World) (kk : Below g w w') => HRa.out w' kk q hlt)
   have hal := HAl.out q hlt
   obtain ⟨u, hu⟩ : ∃ u, u = opAt L q := ⟨_, rfl⟩
   rw [← hu] at a0 a1 a2 a3 a4 a5 a6 HGq HRq hal
   have HA := hide hA
   subst hA
   clear hu
   obtain ⟨⟨uk, ut, un, ug, ua, ux, uy⟩, uA, uc⟩ := u
   simp only at a0 a1 a2 a3 a4 a5 a6 HGq HRq hal
   obtain ⟨u9, hu9⟩ : ∃ u9, u9 = ua.length := ⟨_, rfl⟩
   rw [← hu9] at a4 hal
   obtain ⟨D, hD⟩ : ∃ D, D = Gf q := ⟨_, rfl⟩
   rw [← hD] at HD HGq hgl ⊢
   have HU9 := hide hu9
   clear hD hu9
   obtain ⟨V5, hV5⟩ : ∃ V9, V9 = wr.alloc (.cells #[.int .i64 uk, .string ut, .int .i64 un, .int .i64 ug, .slice uA u9 uc, .int .i64 ux, .int .i64 uy] 37) := ⟨_, rfl⟩
   obtain ⟨g5, hg5⟩ : ∃ g9, g9 = wr.heap.size := ⟨_, rfl⟩
   have HD5 := hide (show DAt V5 g1 c1 D by rw [hV5]; exact HD.out.alloc _)
   have HB5 := hide (show Below g w V5 by rw [hV5]; exact HB.out.alloc (by have := HB.out.size; have := Hg.out; omega) _)
   have HG5 := hide (show Blk V5 g 24 #[.string s, .int .i64 d, .int .i64 j, .slice (some ⟨ab, ao, none⟩) m pc] by rw [hV5]; exact HG.out.alloc _)
   have HX5 := hide (show Blk V5 g5 37 #[.int .i64 uk, .string ut, .int .i64 un, .int .i64 ug, .slice uA u9 uc, .int .i64 ux, .int .i64 uy] by rw [hV5, hg5]; exact Blk.new _ _ _)
   have x0 : V5.cell? ⟨g5, 0, none⟩ = some (.int .i64 uk) := by rw [HX5.out.cell]; rfl
   have x3 : V5.cell? ⟨g5, 3, none⟩ = some (.int .i64 ug) := by rw [HX5.out.cell]; rfl
   have x4 : V5.cell? ⟨g5, 4, none⟩ = some (.slice uA u9 uc) := by rw [HX5.out.cell]; rfl
   have HV5 := hide hV5
   have Hg5 := hide hg5
   clear HD HB HG hV5 hg5
   go_upto_region 6 with fail
   rw [← HV5.out, ← Hg5.out]
   clear HV5 Hg5 a0 a1 a2 a3 a4 a5 a6 c3
   by_cases e2 : uk = 2
   case neg =>
    have d5 : (uk == 2) = false := by simp; exact e2
    by_cases e3 : uk = 3
    case pos =>
     have d6 : (uk == 3) = true := by simp; exact e3
     have HGq2 := hide (show (jumpsL ⟨uk, ut, un, ug, ua, ux, uy⟩).foldl insG D = insG D ug by unfold jumpsL; rw [if_neg e2, if_pos e3]; rfl)
     have hgl2 := insG_len D ug
     clear e2 e3
     go_wp2_with fail
     refine (add_d g1 c1 D ug _ HD5.out (by omega)).mono ?_
     rintro e V6 ⟨⟨g6d, c6d, rfl, hD9⟩, hb9⟩
     have HD6 := hide hD9
     have HB6 := hide (HB5.out.trans (hb9.mono (by have := HB5.out.size; have := Hg.out; omega)))
     have HG6 := hide (HG5.out.below hb9)
     have HX6 := hide (HX5.out.below hb9)
     clear hD9 hb9
     have y0 : V6.cell? ⟨g5, 0, none⟩ = some (.int .i64 uk) := by rw [HX6.out.cell]; rfl
     have y4 : V6.cell? ⟨g5, 4, none⟩ = some (.slice uA u9 uc) := by rw [HX6.out.cell]; rfl
     go_wp2_with fail
     go_loopw [3, 6] (fun v i w9 => v = .slice (some ⟨g6d, 0, none⟩) (insG D ug).length c6d ∧ i = .int .i64 0 ∧ Hid (w9 = V6)) (fun _ _ _ => 0)
     case atStart => exact ⟨rfl, rfl, hide rfl⟩
     case round =>
      obtain ⟨rfl, rfl, hw9⟩ := hrel
      rw [hw9.out]
      clear hw9
      by_cases h9 : 0 < u9
      case pos =>
       have f1 : decide ((0 : Int) < (u9 : Int)) = true := by simp; exact h9
       have f2 : decide (0 < u9) = true := by simp; exact h9
       go_wp2_with fail
       go_roundw
       case rel => exact ⟨q + 1, g6d, c6d, by omega, by rw [HGq.out, HGq2.out], by go_num, by rw [HGq.out, HGq2.out]; exact HD6, HB6, HG6⟩
       case measure => simp [intOf]; omega
      case neg =>
       have f1 : decide ((0 : Int) < (u9 : Int)) = false := by simp; omega
       have f2 : decide (0 < u9) = false := by simp; omega
       go_wp2_with fail
       go_roundw
       case rel => exact ⟨q + 1, g6d, c6d, by omega, by rw [HGq.out, HGq2.out], by go_num, by rw [HGq.out, HGq2.out]; exact HD6, HB6, HG6⟩
       case measure => simp [intOf]; omega
    case neg =>
     have d6 : (uk == 3) = false := by simp; exact e3
     have HGq2 := hide (show (jumpsL ⟨uk, ut, un, ug, ua, ux, uy⟩).foldl insG D = D by unfold jumpsL; rw [if_neg e2, if_neg e3]; rfl)
     clear e2 e3
     have y0 : V5.cell? ⟨g5, 0, none⟩ = some (.int .i64 uk) := by rw [HX5.out.cell]; rfl
     have y4 : V5.cell? ⟨g5, 4, none⟩ = some (.slice uA u9 uc) := by rw [HX5.out.cell]; rfl
     go_wp2_with fail
     go_loopw [3, 6] (fun v i w9 => v = .slice (some ⟨g1, 0, none⟩) D.length c1 ∧ i = .int .i64 0 ∧ Hid (w9 = V5)) (fun _ _ _ => 0)
     case atStart => exact ⟨rfl, rfl, hide rfl⟩
     case round =>
      obtain ⟨rfl, rfl, hw9⟩ := hrel
      rw [hw9.out]
      clear hw9
      by_cases h9 : 0 < u9
      case pos =>
       have f1 : decide ((0 : Int) < (u9 : Int)) = true := by simp; exact h9
       have f2 : decide (0 < u9) = true := by simp; exact h9
       go_wp2_with fail
       go_roundw
       case rel => exact ⟨q + 1, g1, c1, by omega, by rw [HGq.out, HGq2.out], by go_num, by rw [HGq.out, HGq2.out]; exact HD5, HB5, HG5⟩
       case measure => simp [intOf]; omega
      case neg =>
       have f1 : decide ((0 : Int) < (u9 : Int)) = false := by simp; omega
       have f2 : decide (0 < u9) = false := by simp; omega
       go_wp2_with fail
       go_roundw
       case rel => exact ⟨q + 1, g1, c1, by omega, by rw [HGq.out, HGq2.out], by go_num, by rw [HGq.out, HGq2.out]; exact HD5, HB5, HG5⟩
       case measure => simp [intOf]; omega
   case pos =>
    have d5 : (uk == 2) = true := by simp; exact e2
    have d6 : (uk == 3) = false := by simp; omega
    obtain ⟨Ef, hEf⟩ : ∃ Ef : Nat → List Int, Ef = fun r => ((ua.take r).map (fun a => a.to)).foldl insG D := ⟨_, rfl⟩
    have HE0 := hide (show Ef 0 = D by rw [hEf]; rfl)
    have HEs := hide (show ∀ r, r < u9 → Ef (r + 1) = insG (Ef r) (armAt ua r).to from fun r hr => by
     have hr' : r < ua.length := by rw [← HU9.out]; exact hr
     have e : armAt ua r = ua[r] := by simp [armAt, List.getD, hr']
     rw [hEf]
     show ((ua.take (r + 1)).map (fun a => a.to)).foldl insG D = _
     rw [List.take_succ_eq_append_getElem hr', List.map_append, List.foldl_append, e]
     rfl)
    have HEl := hide (show ∀ r, r ≤ u9 → (Ef r).length ≤ 102 * q + r from fun r hr => by
     have h1 := foldG_len ((ua.take r).map (fun a => a.to)) D
     rw [List.length_map, List.length_take] at h1
     rw [hEf]
     show (((ua.take r).map (fun a => a.to)).foldl insG D).length ≤ _
     omega)
    have HEe := hide (show (jumpsL ⟨uk, ut, un, ug, ua, ux, uy⟩).foldl insG D = insG (insG (Ef u9) ux) uy by
     unfold jumpsL
     rw [if_pos e2, List.foldl_append, hEf, HU9.out]
     show _ = insG (insG (((ua.take ua.length).map (fun a => a.to)).foldl insG D) ux) uy
     rw [List.take_length]
     rfl)
    have HRc := hide (show ∀ w', Below g w w' → ∀ r, r < u9 → ∃ b o, uA = some ⟨b, o, none⟩ ∧ w'.cell? ⟨b, o + r * 2, none⟩ = some (.string (armAt ua r).pat) ∧ w'.cell? ⟨b, o + r * 2 + 1, none⟩ = some (.int .i64 (armAt ua r).to) from fun w' kk r hr => by
     obtain ⟨b, o, h1, _, h2, h3⟩ := arm_cells (HRq.out w' kk) r (by rw [← HU9.out]; exact hr)
     exact ⟨b, o, h1, h2, h3⟩)
    rw [← HE0.out] at HD5
    have HEl0 := hide (show Ef 0 = D from HE0.out)
    clear e2 hEf
    go_wp2_with fail
    go_loopw [3, 6] (fun v i w9 => ∃ r g2 c2 : Nat, r ≤ u9 ∧ v = .slice (some ⟨g2, 0, none⟩) (Ef r).length c2 ∧ i = .int .i64 r ∧ Hid (DAt w9 g2 c2 (Ef r)) ∧ Hid (Below g w w9) ∧ Hid (Blk w9 g 24 #[.string s, .int .i64 d, .int .i64 j, .slice (some ⟨ab, ao, none⟩) m pc]) ∧ Hid (Blk w9 g5 37 #[.int .i64 uk, .string ut, .int .i64 un, .int .i64 ug, .slice uA u9 uc, .int .i64 ux, .int .i64 uy])) (fun _ i _ => u9 - (intOf i).toNat)
    case atStart => exact ⟨0, g1, c1, Nat.zero_le _, by rw [HEl0.out], rfl, HD5, HB5, HG5, HX5⟩
    case round =>
     clear HD5 HB5 HG5 HX5 HE0 HEl0 x0 x3 x4 d3 d4
     obtain ⟨r, g2, c2, hr, rfl, rfl, HD6, HB6, HG6, HX6⟩ := hrel
     obtain ⟨V6, hV6⟩ : ∃ V9, V9 = wr := ⟨_, rfl⟩
     rw [← hV6] at HD6 HB6 HG6 HX6 ⊢
     clear hV6
     have w1 : IntKind.i64.wrap ((r : Int) + 1) = (r : Int) + 1 := IntWalk.i64_in _ (by omega)
     have hel := HEl.out r hr
     have x0 : V6.cell? ⟨g5, 0, none⟩ = some (.int .i64 uk) := by rw [HX6.out.cell]; rfl
     have x4 : V6.cell? ⟨g5, 4, none⟩ = some (.slice uA u9 uc) := by rw [HX6.out.cell]; rfl
     have x5 : V6.cell? ⟨g5, 5, none⟩ = some (.int .i64 ux) := by rw [HX6.out.cell]; rfl
     have x6 : V6.cell? ⟨g5, 6, none⟩ = some (.int .i64 uy) := by rw [HX6.out.cell]; rfl
     by_cases hru : r < u9
     case pos =>
      have f1 : decide ((r : Int) < (u9 : Int)) = true := by simp; exact hru
      have f2 : decide (r < u9) = true := by simp; exact hru
      have i1 : (0 : Int) ≤ (r : Int) := by omega
      have i2 : (r : Int) < (u9 : Int) := by omega
      obtain ⟨rb, ro, hA2, b0, b1⟩ := HRc.out V6 HB6.out r hru
      have HEr := hide (HEs.out r hru)
      have HA2 := hide hA2
      subst hA2
      obtain ⟨a9, ha9⟩ : ∃ a9, a9 = armAt ua r := ⟨_, rfl⟩
      rw [← ha9] at b0 b1 HEr
      clear ha9
      obtain ⟨E, hE⟩ : ∃ E, E = Ef r := ⟨_, rfl⟩
      rw [← hE] at HD6 HEr hel ⊢
      clear hE
      go_wp2_with fail
      refine (add_d g2 c2 E a9.to _ HD6.out (by omega)).mono ?_
      rintro e V7 ⟨⟨g7d, c7d, rfl, hD9⟩, hb9⟩
      have HD7 := hide hD9
      have HB7 := hide (HB6.out.trans (hb9.mono (by have := HB6.out.size; have := Hg.out; omega)))
      have HG7 := hide (HG6.out.below hb9)
      have HX7 := hide (HX6.out.below hb9)
      clear hD9 hb9
      go_wp2_with fail
      go_roundw
      case rel => exact ⟨r + 1, g7d, c7d, by omega, by rw [HEr.out], by go_num, by rw [HEr.out]; exact HD7, HB7, HG7, HX7⟩
      case measure => simp [intOf]; omega
     case neg =>
      have hru2 : r = u9 := by omega
      have f1 : decide ((r : Int) < (u9 : Int)) = false := by simp; omega
      have f2 : decide (r < u9) = false := by simp; omega
      rw [← hru2] at HEe
      obtain ⟨E, hE⟩ : ∃ E, E = Ef r := ⟨_, rfl⟩
      rw [← hE] at HD6 HEe hel ⊢
      have hE1 := insG_len E ux
      clear hE hru2
      go_upto_region 13 with fail
      obtain ⟨V0, hV0⟩ : ∃ V9, V9 = V6.drew := ⟨_, rfl⟩
      have hb0 : Below V6.heap.size V6 V0 := by rw [hV0]; exact (Below.refl _ _).drew
      have HD0 := hide (HD6.out.below hb0)
      have HB0 := hide (HB6.out.trans (hb0.mono (by have := HB6.out.size; have := Hg.out; omega)))
      have HG0 := hide (HG6.out.below hb0)
      have HX0 := hide (HX6.out.below hb0)
      clear hb0
      refine wp_region_held (S := fun w' => w'.cell? ⟨g5, 5, none⟩ = some (.int .i64 ux) ∧ w'.cell? ⟨g5, 6, none⟩ = some (.int .i64 uy)) (by kernel_rfl) ?_
      change wpAnyH _ _ _ _ _ _ _ _ V6.drew
      have hHeld : (fun w' => w'.cell? ⟨g5, 5, none⟩ = some (.int .i64 ux) ∧ w'.cell? ⟨g5, 6, none⟩ = some (.int .i64 uy)) V6.drew := ⟨x5, x6⟩
      rw [← hV0] at hHeld ⊢
      simp only [List.size_toArray, List.length_cons, List.length_nil, Nat.zero_add, Nat.reduceAdd]
      clear hV0
      refine wpAnyH_take (i := 0) (v := ?_) rfl (by kernel_rfl) (by kernel_rfl) (by kernel_rfl) (fun _ _ _ h => h) (Or.inl ⟨by rfl, ?_⟩) (by assumption) ?_
      rotate_left
      ·(intro w9 hS9; (try simp only [List.getElem_toArray, List.getElem_cons_zero, List.getElem_cons_succ]); go_simp <;> rfl)
      try simp only [Act.put, List.setIfInBounds_toArray, List.set_cons_zero, List.set_cons_succ, List.getElem_toArray, List.getElem_cons_zero, List.getElem_cons_succ]
      refine wpAnyH_take (i := 1) (v := ?_) rfl (by kernel_rfl) (by kernel_rfl) (by kernel_rfl) (fun _ _ _ h => h) (Or.inl ⟨by rfl, ?_⟩) (by assumption) ?_
      rotate_left
      ·(intro w9 hS9; (try simp only [List.getElem_toArray, List.getElem_cons_zero, List.getElem_cons_succ]); go_simp <;> rfl)
      try simp only [Act.put, List.setIfInBounds_toArray, List.set_cons_zero, List.set_cons_succ, List.getElem_toArray, List.getElem_cons_zero, List.getElem_cons_succ]
      refine wpAnyH_take (i := 2) (v := ?_) rfl (by kernel_rfl) (by kernel_rfl) (by kernel_rfl) (fun _ _ _ h => h) (Or.inl ⟨by rfl, ?_⟩) (by assumption) ?_
      rotate_left
      ·(intro w9 hS9; (try simp only [List.getElem_toArray, List.getElem_cons_zero, List.getElem_cons_succ]); go_simp <;> rfl)
      try simp only [Act.put, List.setIfInBounds_toArray, List.set_cons_zero, List.set_cons_succ, List.getElem_toArray, List.getElem_cons_zero, List.getElem_cons_succ]
      refine wpAnyH_take (i := 4) (v := ?_) rfl (by kernel_rfl) (by kernel_rfl) (by kernel_rfl) (fun _ _ _ h => h) (Or.inl ⟨by rfl, ?_⟩) (by assumption) ?_
      rotate_left
      ·(intro w9 hS9; (try simp only [List.getElem_toArray, List.getElem_cons_zero, List.getElem_cons_succ]); go_simp <;> rfl)
      try simp only [Act.put, List.setIfInBounds_toArray, List.set_cons_zero, List.set_cons_succ, List.getElem_toArray, List.getElem_cons_zero, List.getElem_cons_succ]
      refine wpAnyH_take (i := 5) (v := ?_) rfl (by kernel_rfl) (by kernel_rfl) (by kernel_rfl) (fun _ _ _ h => h) (Or.inl ⟨by rfl, ?_⟩) (by assumption) ?_
      rotate_left
      ·(intro w9 hS9; (try simp only [List.getElem_toArray, List.getElem_cons_zero, List.getElem_cons_succ]); go_simp <;> rfl)
      try simp only [Act.put, List.setIfInBounds_toArray, List.set_cons_zero, List.set_cons_succ, List.getElem_toArray, List.getElem_cons_zero, List.getElem_cons_succ]
      refine wpAnyH_ready (rs := [3]) (by kernel_rfl) (by simp) ?_
      refine AllReadyH.cons rfl (fun K hK => ?_) AllReadyH.nil
      try simp only [List.getElem_toArray, List.getElem_cons_zero, List.getElem_cons_succ]
      try go_simp
      go_at_call 68
      refine (add_d g2 c2 E ux _ HD0.out (by omega)).mono ?_
      rintro e V8 ⟨⟨g8d, c8d, rfl, hD9⟩, hb9⟩
      have HD8 := hide hD9
      have HB8 := hide (HB0.out.trans (hb9.mono (by have := HB0.out.size; have := Hg.out; omega)))
      have HG8 := hide (HG0.out.below hb9)
      have HX8 := hide (HX0.out.below hb9)
      clear hD9 hb9
      refine hK.out _ _ (by have q0 := HX8.out.cell 5; have q1 := HX8.out.cell 6; exact ⟨q0, q1⟩) (fun hHeld => ?_)
      clear hK K
      try simp only [Act.put, List.setIfInBounds_toArray, List.set_cons_zero, List.set_cons_succ, List.getElem_toArray, List.getElem_cons_zero, List.getElem_cons_succ]
      refine wpAnyH_ready (rs := [6]) (by kernel_rfl) (by simp) ?_
      refine AllReadyH.cons rfl (fun K hK => ?_) AllReadyH.nil
      try simp only [List.getElem_toArray, List.getElem_cons_zero, List.getElem_cons_succ]
      try go_simp
      go_at_call 68
      refine (add_d g8d c8d (insG E ux) uy _ HD8.out (by omega)).mono ?_
      rintro e V9 ⟨⟨g9d, c9d, rfl, hD9⟩, hb9⟩
      have HD9 := hide hD9
      have HB9 := hide (HB8.out.trans (hb9.mono (by have := HB8.out.size; have := Hg.out; omega)))
      have HG9 := hide (HG8.out.below hb9)
      have HX9 := hide (HX8.out.below hb9)
      clear hD9 hb9
      refine hK.out _ _ (by have q0 := HX9.out.cell 5; have q1 := HX9.out.cell 6; exact ⟨q0, q1⟩) (fun hHeld => ?_)
      clear hK K
      try simp only [Act.put, List.setIfInBounds_toArray, List.set_cons_zero, List.set_cons_succ, List.getElem_toArray, List.getElem_cons_zero, List.getElem_cons_succ]
      refine wpAnyH_take (i := 7) (v := ?_) rfl (by kernel_rfl) (by kernel_rfl) (by kernel_rfl) (fun _ _ _ h => h) (Or.inl ⟨by rfl, ?_⟩) (by assumption) ?_
      rotate_left
      ·(intro w9 hS9; (try simp only [List.getElem_toArray, List.getElem_cons_zero, List.getElem_cons_succ]); go_simp <;> rfl)
      try simp only [Act.put, List.setIfInBounds_toArray, List.set_cons_zero, List.set_cons_succ, List.getElem_toArray, List.getElem_cons_zero, List.getElem_cons_succ]
      refine wpAnyH_done (by kernel_rfl) ?_ _
      try simp only [Exit.then]
      clear hHeld
      go_wp2_with fail
      go_roundw
      case rel => exact ⟨q + 1, g9d, c9d, by omega, by rw [HGq.out, HEe.out], by go_num, by rw [HGq.out, HEe.out]; exact HD9, HB9, HG9⟩
      case measure => simp [intOf]; omega
end Go.Proofs.YtdmdohjdmnmabaaGreatDoor
