/- The ops to which a script jumps, by the program. Conditions: those of each theorem. -/
import Derived.Test.YtdmdohjdmnmabaaGreatDoorQh34
import Derived.Test.YtdmdohjdmnmabaaGreatDoorQh35
import Derived.Test.YtdmdohjdmnmabaaGreatDoorQh30
namespace Go.Proofs.YtdmdohjdmnmabaaGreatDoor
open Go.RowKit Go.Sort
set_option linter.unusedVariables false
set_option linter.unusedSimpArgs false

theorem jumps_len (o : OpM) : (jumpsL o).length ≤ o.arms.length + 2 := by
 unfold jumpsL
 split
 ·simp
 split <;> simp
theorem jmps_succ (l : List OpV) (q : Nat) (h : q < l.length) : jmpsL ((l.take (q + 1)).map (·.o)) = jmpsL ((l.take q).map (·.o)) ++ jumpsL (opAt l q).o := by
 have e : opAt l q = l[q] := by simp [opAt, List.getD, h]
 rw [List.take_succ_eq_append_getElem h, ← e]
 simp [jmpsL]
theorem OpsRd.bel {w w' : World} {B : Nat} {A : Option Addr} {L : List OpV} (h : OpsRd w NoBlk A L) (hB : B = w.heap.size) (k : Below B w w') : OpsRd w' NoBlk A L := by subst hB; exact h.only (Only.of_below k NoBlk) (fun _ h => h)
set_option maxRecDepth 100000 in
set_option maxHeartbeats 6400000 in
theorem Targets_c (s : ByteArray) (d j : Int) (PA : Option Addr) (pc : Nat) (L : List OpV) (w : World) (hr : OpsRd w NoBlk PA L) (hn : L.length ≤ 1000) (ha : ∀ v ∈ L, v.o.arms.length ≤ 100) :
 Calls Tryz.prog 28 #[.agg #[.string s, .int .i64 d, .int .i64 j, .slice PA L.length pc]] w fun e w' => (∃ A1 c1, e = .returned (.slice A1 (tgts (L.map (·.o))).length c1) ∧ Rd w' NoBlk A1 (flat encI (tgts (L.map (·.o)))) ∧ (tgts (L.map (·.o)) = [] ∨ ∃ g2, A1 = some ⟨g2, 0, none⟩ ∧ w.heap.size ≤ g2 ∧ Ty w' g2)) ∧ Below w.heap.size w w' := by
 obtain ⟨i0, hi, hz0, hz1, hz2⟩ := info_parts Tryz.infoI3
 obtain ⟨W, hW⟩ : ∃ W, W = w.alloc (.cells #[.string s, .int .i64 d, .int .i64 j, .slice PA L.length pc] 24) := ⟨_, rfl⟩
 obtain ⟨g, hg⟩ : ∃ g, g = w.heap.size := ⟨_, rfl⟩
 have HB := hide (show Below g w W by rw [hW, hg]; exact below_alloc _ _)
 have HG := hide (show Blk W g 24 #[.string s, .int .i64 d, .int .i64 j, .slice PA L.length pc] by rw [hW, hg]; exact Blk.new _ _ _)
 have HRo := hide (fun (w' : World) (kk : Below g w w') (i : Nat) (hi : i < L.length) => op_cells (hr.bel hg kk).1 i hi)
 have HJ := hide (fun (w' : World) (kk : Below g w w') (i : Nat) (hi : i < L.length) => jumps_c (opAt L i).o.kind (opAt L i).o.text (opAt L i).o.n (opAt L i).o.to (opAt L i).A (opAt L i).o.arms (opAt L i).c (opAt L i).o.onT (opAt L i).o.onE w' ((hr.bel hg kk).2 _ (opAt_mem hi)) (by have := ha _ (opAt_mem hi); omega))
 have HS := hide (jmps_succ L)
 have HJl := hide (fun (i : Nat) (hi : i < L.length) => show (jumpsL (opAt L i).o).length ≤ 102 by have := jumps_len (opAt L i).o; have := ha _ (opAt_mem hi); omega)
 have HTk := hide (show jmpsL ((L.take L.length).map (·.o)) = jmpsL (L.map (·.o)) by rw [List.take_length])
 have HTg := hide (show tgts (L.map (·.o)) = uniq (keepL ngB (jmpsL (L.map (·.o)))) from rfl)
 obtain ⟨T, hT⟩ : ∃ T, T = tgts (L.map (·.o)) := ⟨_, rfl⟩
 obtain ⟨m, hm⟩ : ∃ m, m = L.length := ⟨_, rfl⟩
 rw [← hT] at HTg ⊢
 rw [← hm] at hn HG hW HRo HJ HS HJl HTk ⊢
 rw [← hg]
 have c3 : W.cell? ⟨g, 3, none⟩ = some (.slice PA m pc) := by rw [HG.out.cell]; rfl
 have HW := hide hW
 have Hg := hide hg
 clear hr hW hg hm ha hT
 go_enter Tryz.func28, Tryz.ntmps28
 go_upto_region 1 with fail
 change Code.wp _ _ _ _ (w.alloc (.cells #[.string s, .int .i64 d, .int .i64 j, .slice PA m pc] 24))
 rw [← HW.out, ← Hg.out]
 go_wp2_with fail
 go_loopw [3, 9] (fun v i wr => ∃ q mm : Nat, q ≤ m ∧ mm ≤ 102 * q ∧ i = .int .i64 q ∧ Hid ((jmpsL ((L.take q).map (·.o))).length = mm) ∧ Hid (wr.ownsRow (g + 1) 3 1 v mm (flat encI (jmpsL ((L.take q).map (·.o))))) ∧ Hid (Below g w wr) ∧ Hid (Blk wr g 24 #[.string s, .int .i64 d, .int .i64 j, .slice PA m pc])) (fun _ i _ => m - (intOf i).toNat)
 case atStart => exact ⟨0, 0, Nat.zero_le _, Nat.zero_le _, rfl, hide rfl, hide ⟨rfl, Or.inl ⟨rfl, rfl⟩⟩, HB, HG⟩
 case round =>
  clear HB HG c3
  obtain ⟨q, mm, hq, hmm, rfl, HLn, HO, HB, HG⟩ := hrel
  have w0 : IntKind.i64.wrap ((q : Int) + 1) = (q : Int) + 1 := IntWalk.i64_in _ (by omega)
  by_cases hlt : q < m
  case pos =>
   have d3 : decide ((q : Int) < (m : Int)) = true := by simp; exact hlt
   have d4 : decide (q < m) = true := by simp; exact hlt
   have j1 : (0 : Int) ≤ (q : Int) := by omega
   have j2 : (q : Int) < (m : Int) := by omega
   obtain ⟨ab, ao, hA, hab, a0, a1, a2, a3, a4, a5, a6⟩ := HRo.out _ HB.out q hlt
   have HSq := hide (HS.out q hlt)
   have HJq := hide (fun (w' : World) (kk : Below g w w') => HJ.out w' kk q hlt)
   have hjl := HJl.out q hlt
   obtain ⟨u, hu⟩ : ∃ u, u = opAt L q := ⟨_, rfl⟩
   rw [← hu] at a0 a1 a2 a3 a4 a5 a6 HSq HJq hjl
   have HA := hide hA
   subst hA
   clear hu
   obtain ⟨⟨uk, ut, un, ug, ua, ux, uy⟩, uA, uc⟩ := u
   simp only at a0 a1 a2 a3 a4 a5 a6 HSq HJq hjl
   obtain ⟨JL, hJL⟩ : ∃ JL, JL = jumpsL ⟨uk, ut, un, ug, ua, ux, uy⟩ := ⟨_, rfl⟩
   rw [← hJL] at HSq HJq hjl
   obtain ⟨un9, hun9⟩ : ∃ un9, un9 = ua.length := ⟨_, rfl⟩
   rw [← hun9] at a4 HJq
   clear hJL hun9
   have HB1 := hide (show Below g w (wr.alloc (.cells #[.int .i64 uk, .string ut, .int .i64 un, .int .i64 ug, .slice uA un9 uc, .int .i64 ux, .int .i64 uy] 37)) from HB.out.alloc (by have := HB.out.size; have := Hg.out; omega) _)
   have HO1 := hide (HO.out.alloc (.cells #[.int .i64 uk, .string ut, .int .i64 un, .int .i64 ug, .slice uA un9 uc, .int .i64 ux, .int .i64 uy] 37))
   have HG1 := hide (HG.out.alloc (.cells #[.int .i64 uk, .string ut, .int .i64 un, .int .i64 ug, .slice uA un9 uc, .int .i64 ux, .int .i64 uy] 37))
   go_wp2_with fail
   refine (HJq.out _ HB1.out).mono ?_
   rintro e w2 ⟨⟨A1, c1, rfl, hr1⟩, hb1⟩
   have HB2 := hide (HB1.out.trans (hb1.mono (by have := HB1.out.size; have := Hg.out; omega)))
   have HO2 := hide (own_only HO1.out (Only.of_below hb1 NoBlk) (fun _ _ h => h.elim))
   have HG2 := hide (HG1.out.below hb1)
   have HR1 := hide hr1
   have hbs : g + 1 ≤ w2.heap.size := by have := HG2.out.lt; omega
   clear hb1 hr1
   go_wp2_with (first
    | (at_builtin; refine wpList_append_rd _ rfl (.tmp 13) (.tmp 15) _ rfl (g + 1) 3 i0 _ 1 8 Tryz.underlying58 hi hz0 hz1 hz2 rfl (by omega) _ mm _ rfl HO2.out NoBlk A1 JL.length c1 (flat encI JL) rfl HR1.out (by rw [encI_len, Nat.mul_one]) (encI_one JL) (by simp only [maxLen]; omega) (by omega) hbs ?_; intro v3 w3 hown3 hgr _; have Own3 := hide hown3; have Gr := hide hgr; clear hown3 hgr))
   have HB3 := hide (HB2.out.grown Gr.out (by have := HB2.out.size; have := Hg.out; omega) (fun j hj => by have := own_ge HO2.out j hj; omega))
   have HG3 := hide (Blk.grown HG2.out HO2.out (by decide) Gr.out)
   have HL3 := hide (show (jmpsL ((L.take (q + 1)).map (·.o))).length = mm + JL.length by rw [HSq.out, List.length_append, HLn.out])
   have HO3 := hide (show w3.ownsRow (g + 1) 3 1 v3 (mm + JL.length) (flat encI (jmpsL ((L.take (q + 1)).map (·.o)))) by rw [HSq.out, flat_append]; exact Own3.out)
   go_roundw
   case rel => exact ⟨q + 1, mm + JL.length, by omega, by omega, by go_num, HL3, HO3, HB3, HG3⟩
   case measure => simp [intOf]; omega
  case neg =>
   obtain rfl : q = m := by omega
   have d3 : decide ((q : Int) < (q : Int)) = false := by simp
   have d4 : decide (q < q) = false := by simp
   rw [HTk.out] at HLn HO
   obtain ⟨J, hJ⟩ : ∃ J, J = jmpsL (L.map (·.o)) := ⟨_, rfl⟩
   rw [← hJ] at HLn HO HTg
   clear hJ
   obtain ⟨A1, c1, rfl, hcap⟩ := own_cap HO.out
   have hd := DeleteI_c (g + 1) J (.slice A1 mm c1) wr (by have := HG.out.lt; omega) (by have := HO.out; rw [← HLn.out] at this ⊢; exact this) (by rw [HLn.out]; omega)
   obtain ⟨K, hK⟩ : ∃ K, K = keepL ngB J := ⟨_, rfl⟩
   have hKl : K.length ≤ mm := by rw [hK, ← HLn.out]; exact keep_le _ _
   rw [← hK] at hd HTg
   have HD := hide hd
   clear hd hK
   go_wp2_with fail
   refine HD.out.mono ?_
   rintro e w2 ⟨⟨A2, c2, rfl, hrow⟩, hb2⟩
   have HB2 := hide (HB.out.trans (hb2.mono (Nat.le_succ g)))
   clear hb2
   rcases hrow with h0 | ⟨g2, rfl, hgb, hgl, hH, hcl, hty⟩
   ·subst h0
    have H1 := hide (Any.slices_Sort_int_none Tryz.laysSort A2 c2 w2)
    have H2 := hide (Any.slices_Compact_int_empty Tryz.laysCompact A2 c2 w2)
    have HE := hide (show T = [] by rw [HTg.out]; exact compact_nil)
    go_wp2_with fail
    refine H1.out.mono ?_
    rintro e w3 ⟨rfl, rfl⟩
    go_wp2_with fail
    refine H2.out.mono ?_
    rintro e w4 ⟨rfl, rfl⟩
    go_wp2_with fail
    go_ret
    exact ⟨⟨A2, c2, by rw [HE.out]; rfl, by rw [HE.out]; exact Rd.nil, Or.inl HE.out⟩, HB2.out⟩
   ·obtain ⟨S, hS⟩ : ∃ S, S = K.mergeSort fun x y => decide (x ≤ y) := ⟨_, rfl⟩
    have hSl : S.length = K.length := by rw [hS, List.length_mergeSort]
    have h1 := sortI_c g2 0 c2 K w2 hH hgl (by omega)
    rw [← hS] at h1
    have HTs := hide (show T = Lib.compact S by rw [HTg.out, hS]; rfl)
    have H1 := hide h1
    have HS' := hide hSl
    have HH := hide hH
    have HTy := hide hty
    clear h1 hSl hH hS hty HTg
    go_wp2_with fail
    refine H1.out.mono ?_
    rintro e w3 ⟨rfl, q3, os, rfl⟩
    have hH2 : Holds (Value.int .i64) (grow (putRow (Value.int .i64) (Sort.ahead w2 q3) g2 0 S.toArray) os) g2 0 S.toArray := holds_grow _ _ _ _ _ _ (by simpa using hgl) (holds_putRow _ _ _ _ _ _ (holds_ahead _ _ _ _ _ _ HH.out) (by simp [HS'.out]))
    have b2 : Below g w (grow (putRow (Value.int .i64) (Sort.ahead w2 q3) g2 0 S.toArray) os) := below_grow (below_putRow (below_ahead HB2.out q3) (by omega) _) (by have := HB2.out.size; have := Hg.out; simp; omega) os
    have hl2 : g2 < (grow (putRow (Value.int .i64) (Sort.ahead w2 q3) g2 0 S.toArray) os).heap.size := by simp [grow]; omega
    have ht2 : Ty (grow (putRow (Value.int .i64) (Sort.ahead w2 q3) g2 0 S.toArray) os) g2 := Ty.grow (Ty.map (Ty.ahead HTy.out q3) _) os
    generalize grow (putRow (Value.int .i64) (Sort.ahead w2 q3) g2 0 S.toArray) os = w3 at hH2 b2 hl2 ht2 ⊢
    have h2 := compactI_c g2 0 c2 S w3 hH2 (by rw [HS'.out]; omega) (by rw [HS'.out]; exact hcl)
    rw [HS'.out] at h2
    have H2 := hide h2
    have HH2 := hide hH2
    have HB3 := hide b2
    have HL2 := hide hl2
    have HT3 := hide ht2
    clear h2 hH2 b2 hl2 ht2
    go_wp2_with fail
    refine H2.out.mono ?_
    rintro e w4 ⟨rfl, q2, rfl⟩
    go_wp2_with fail
    go_ret
    rw [HTs.out]
    refine ⟨⟨some ⟨g2, 0, none⟩, c2, rfl, Or.inr ⟨g2, 0, rfl, (fun h => h.elim), by simpa using HL2.out, fun j hj => ?_⟩, Or.inr ⟨g2, rfl, by omega, Ty.map (Ty.ahead HT3.out _) _⟩⟩, below_putRow (below_ahead HB3.out _) (by omega) _⟩
    have hj' : j < (Lib.compact S).length := by rw [flat_encI, List.length_map] at hj; exact hj
    have hle := compact_le S
    rw [cell?_putRow _ _ _ _ S.toArray _ (holds_ahead _ _ _ _ _ _ HH2.out) (by have := HS'.out; simp; omega) j (by have := HS'.out; simp; omega), flat_encI]
    simp [hj', List.getElem?_append_left hj']
end Go.Proofs.YtdmdohjdmnmabaaGreatDoor
