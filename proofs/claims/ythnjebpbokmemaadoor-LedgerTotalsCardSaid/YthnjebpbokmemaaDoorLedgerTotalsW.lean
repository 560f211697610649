/- The walk of LedgerTotals. Conditions: those of each theorem. -/
import Derived.Test.YthnjebpbokmemaaDoorLed7
import Derived.Test.YthnjebpbokmemaaDoorLedgerRowsW
namespace Go.Proofs.YthnjebpbokmemaaDoor
open Go.RowKit
set_option linter.unusedVariables false
set_option linter.unusedSimpArgs false

theorem rd_newer {w : World} {A : Option Addr} {xs : List Value} (h : Rd w NoBlk A xs) (R : Nat) (hR : w.heap.size ≤ R) : Rd w (· = R) A xs := by
  rcases h with h | ⟨b, o, hA, hm, hlt, hc⟩
  · exact Or.inl h
  · exact Or.inr ⟨b, o, hA, fun e => by omega, hlt, hc⟩
theorem RowAtR.drewN {w0 W wr : World} {R : Nat} {r : RowM} (h : RowAtR w0 W wr R r) (n : Nat) : RowAtR w0 W (wr.drewN n) R r :=
  ⟨h.blk.drewN n, h.only.drewN n, below_drewN' h.bel n⟩
theorem RowAtR.drew {w0 W wr : World} {R : Nat} {r : RowM} (h : RowAtR w0 W wr R r) : RowAtR w0 W wr.drew R r :=
  ⟨h.blk.drew, h.only.drew, below_drew' h.bel⟩
set_option maxRecDepth 100000 in
set_option maxHeartbeats 12000000 in
theorem LedgerTotals_walk (A : Option Addr) (c : Nat) (l : List Ev) (w : World) (hr : Rd w NoBlk A (flat encEv l)) (hn : l.length ≤ maxLen) (hok : ∀ x ∈ l, EvOk x) (ht : Tab w) :
    Calls Tryd.prog 5 #[.slice A l.length c] w fun e w' => e = .returned (.bool true) ∧ Below w.heap.size w w' := by
  have HFw := hide (Few_c NoBlk A c l 18 w hr hn (by omega) (fun k h => h.elim))
  have HT := hide ht
  have hle := few_le l 18
  have htx := few_texts l 18
  have hid := fewL_idem l 18
  clear hr hn hok ht
  go_enter Tryd.func5, Tryd.ntmps5
  go_wp2_with fail
  refine HFw.out.mono ?_
  rintro e w1 ⟨A1, c1, rfl, rd1, hb1, hcap⟩
  obtain ⟨F, hF⟩ : ∃ F, F = fewL l 18 := ⟨_, rfl⟩
  rw [← hF] at rd1 hcap hle hid htx ⊢
  have HF2 := hide (fun (w' : World) (hb : Below w1.heap.size w1 w') => show Calls Tryd.prog 9 #[.slice A1 F.length c1, .int .i64 (18 : Nat)] w' (RetEvs NoBlk F w') from by
    have h := Few_c NoBlk A1 c1 F 18 w' (rd1.below hb) (by unfold maxLen; omega) (by omega) (fun k h => h.elim)
    rw [hid] at h
    exact h)
  have HPt := hide (fun (A' : Option Addr) (c' : Nat) (w' : World) (hr : Rd w' NoBlk A' (flat encEv F)) (hc : F.length ≤ c') => Total_c A' c' F w' hr (by omega) htx hc)
  have HRr := hide (fun (w' : World) (hb : Below w1.heap.size w1 w') => refRows_c A1 c1 F w' (rd1.below hb) (by omega) htx)
  have hrl : (rowsL F).length ≤ 18 := by
    have h1 : (rowsL F).length = (idsL F).length := by simp [rowsL]
    have := ids_le F
    omega
  obtain ⟨L, hL⟩ : ∃ L, L = rowsL F := ⟨_, rfl⟩
  rw [← hL] at HPt HRr hrl
  obtain ⟨N, hN⟩ : ∃ N, N = L.length := ⟨_, rfl⟩
  rw [← hN] at HPt HRr hrl
  obtain ⟨n, hnl⟩ : ∃ n, n = F.length := ⟨_, rfl⟩
  rw [← hnl] at hcap hle HF2 HPt HRr ⊢
  have Hn := hide hnl
  have HN := hide hN
  have HB1 := hide hb1
  have HT1 := hide (HT.out.below hb1)
  clear hnl hF rd1 hb1 HFw hid hL hN htx HT
  go_wp2_with fail
  refine (HF2.out _ (Below.refl _ _)).mono ?_
  rintro e w2 ⟨A2, c2, rfl, rd2, hb2, hcap2⟩
  rw [← Hn.out] at hcap2 ⊢
  have HB2 := hide hb2
  have HC2 := hide (HPt.out A2 c2 w2 rd2 hcap2)
  clear rd2 hb2 hcap2
  go_wp2_with fail
  refine HC2.out.mono ?_
  rintro e w3 ⟨rfl, hb3⟩
  have HB3 := hide (HB2.out.trans (hb3.mono HB2.out.size))
  clear hb3 HC2
  obtain ⟨TT, hTT⟩ : ∃ TT, TT = totId (N : Int) (tot L N) := ⟨_, rfl⟩
  rw [← hTT]
  have HTT := hide hTT
  clear hTT
  obtain ⟨z0, z1, z2, z3, z4, z5, z6, z7, z8, z9⟩ := TT
  go_wp2_with fail
  refine (HRr.out _ HB3.out).mono ?_
  rintro e w4 ⟨hb4, Ay, cy, rfl, ry⟩
  have HB4 := hide (HB3.out.trans (hb4.mono HB3.out.size))
  have HY4 := hide ry
  clear hb4 ry
  obtain ⟨W0, hW0⟩ : ∃ W0, W0 = (w4.alloc (.cells #[.int .i64 z0, .int .i64 z1, .int .i64 z2, .int .i64 z3, .int .i64 z4, .int .i64 z5, .int .i64 z6, .int .i64 z7, .int .i64 z8, .int .i64 z9] 23)).alloc (.cells (rowV (totId (N : Int) (tot L 0))) 26) := ⟨_, rfl⟩
  have hL0 : Below w4.heap.size w4 W0 := by rw [hW0]; exact (below_alloc _ _).alloc (by simp) _
  have HBT := hide (show Blk W0 w4.heap.size 23 #[.int .i64 z0, .int .i64 z1, .int .i64 z2, .int .i64 z3, .int .i64 z4, .int .i64 z5, .int .i64 z6, .int .i64 z7, .int .i64 z8, .int .i64 z9] by rw [hW0]; exact (Blk.new _ _ _).alloc _)
  have HY0 := hide (show Rd W0 (· = w4.heap.size + 1) Ay (flat encR L) from (rd_newer HY4.out (w4.heap.size + 1) (by omega)).below hL0)
  have HRA := hide (show RowAtR w1 W0 W0 (w4.heap.size + 1) (totId (N : Int) (tot L 0)) from ⟨by rw [hW0]; exact Blk.new' (by simp), Only.refl _ _, HB4.out.trans (hL0.mono HB4.out.size)⟩)
  have HLt : w4.heap.size + 1 < W0.heap.size := HRA.out.blk.lt
  have hR1 : w1.heap.size ≤ w4.heap.size + 1 := by have := HB4.out.size; omega
  have HW0 := hide hW0
  clear hW0 hL0 HY4 HF2 HPt HRr
  go_upto_region 4 with fail
  change Code.wp _ _ _ _ ((w4.alloc (.cells #[.int .i64 z0, .int .i64 z1, .int .i64 z2, .int .i64 z3, .int .i64 z4, .int .i64 z5, .int .i64 z6, .int .i64 z7, .int .i64 z8, .int .i64 z9] 23)).alloc (.cells (rowV (totId (N : Int) (tot L 0))) 26))
  rw [← HW0.out]
  go_wp2_with fail
  go_loopw [6] (fun i wr => ∃ k : Nat, k ≤ N ∧ i = .int .i64 k ∧ Hid (RowAtR w1 W0 wr (w4.heap.size + 1) (totId (N : Int) (tot L k)))) (fun i _ => N - (intOf i).toNat)
  case atStart => exact ⟨0, Nat.zero_le _, rfl, HRA⟩
  case round =>
    obtain ⟨k, hk, rfl, hra⟩ := hrel
    by_cases hlt : k < N
    · obtain ⟨b, o, rfl, hbm, hbl, hcx⟩ := row_cells (HY0.out.only hra.out.only (fun _ h => h)) k (by rw [← HN.out]; exact hlt)
      have Hs := hide (show tot L (k + 1) = totS k (tot L k) (rowAt L k) from rfl)
      have HX := hide (fun (wx : World) (hx : Only (· = w4.heap.size + 1) W0 wx) => show ∀ j, j < 10 → wx.cell? ⟨b, o + k * 10 + j, none⟩ = (encR (rowAt L k))[j]? from by
        obtain ⟨b', o', e, _, _, h⟩ := row_cells (HY0.out.only hx (fun _ h => h)) k (by rw [← HN.out]; exact hlt)
        simp only [Option.some.injEq, Addr.mk.injEq, and_true] at e
        obtain ⟨rfl, rfl⟩ := e
        exact h)
      obtain ⟨r, hrr⟩ : ∃ r, r = rowAt L k := ⟨_, rfl⟩
      obtain ⟨t, htt⟩ : ∃ t, t = tot L k := ⟨_, rfl⟩
      rw [← hrr] at hcx Hs HX
      rw [← htt] at hra Hs
      clear hrr htt
      obtain ⟨b0, b1, b2, b3, b4, b5, b6, b7, b8, b9⟩ := r
      obtain ⟨t0, t1, t2, t3, t4, t5, t6, t7, t8, t9⟩ := t
      have HFin := hide (show totId (N : Int) (tot L (k + 1)) = ⟨(N : Int), t1, min t2 b2, IntKind.i64.wrap (t3 + b3), IntKind.i64.wrap (t4 + b4), IntKind.i64.wrap (t5 + b5), IntKind.i64.wrap (t6 + b6), IntKind.i64.wrap (t7 + b7), if b8 = 0 then wrap64 (t8 + 1) else t8, if k = 0 ∨ t9 < b9 then b9 else t9⟩ from by rw [Hs.out]; simp only [IntWalk.i64_left]; rfl)
      have H0 := hide (show RowAtR w1 W0 wr (w4.heap.size + 1) ⟨(N : Int), t1, t2, t3, t4, t5, t6, t7, t8, t9⟩ from hra.out)
      have hbR : ¬ b = w4.heap.size + 1 := hbm
      have hbR' : ¬ w4.heap.size + 1 = b := fun h => hbm h.symm
      have w1' : IntKind.i64.wrap ((k : Int) + 1) = (k : Int) + 1 := IntWalk.i64_in _ (by omega)
      have j1 : (0 : Int) ≤ (k : Int) := by omega
      have j2 : (k : Int) < (N : Int) := by omega
      have j3 : decide ((k : Int) < (N : Int)) = true := by simp; exact hlt
      clear hcx hra hbm Hs
      go_upto_region 7 with fail
      obtain ⟨y0, y1, y2, y3, y4, y5, y6, y7, y8, y9⟩ := H0.out.blk.tenR
      have x2 : wr.cell? ⟨b, o + k * 10 + 2, none⟩ = some (.int .i64 b2) := HX.out wr H0.out.only 2 (by omega)
      have f2 := H0.out.blk.frozen 2
      go_quiet (fail)
      go_upto_if 30 with fail
      go_cut [] from 17 to 109 (fun wx => Hid (RowAtR w1 W0 wx (w4.heap.size + 1) ⟨(N : Int), t1, min t2 b2, t3, t4, t5, t6, t7, t8, t9⟩))
      case first =>
        cases q1 : decide (b2 < t2) with
        | true =>
          have hq : b2 < t2 := by simpa using q1
          have hmin : min t2 b2 = b2 := by omega
          have HM := hide hmin
          have HE := hide ((H0.out.drewN nq).set_ (r' := ⟨(N : Int), t1, b2, t3, t4, t5, t6, t7, t8, t9⟩) hR1 2 (.int .i64 b2) rfl)
          clear hq hmin
          go_wp2_with fail
          go_meet
          rw [HM.out]
          exact HE
        | false =>
          have hq : ¬ b2 < t2 := by simpa using q1
          have hmin : min t2 b2 = t2 := by omega
          have HM := hide hmin
          have HE := hide (H0.out.drewN nq)
          clear hq hmin
          go_wp2_with fail
          go_meet
          rw [HM.out]
          exact HE
      case rest =>
        obtain ⟨m2, hm2⟩ : ∃ m2, m2 = min t2 b2 := ⟨_, rfl⟩
        rw [← hm2] at hcut HFin
        clear hm2 y0 y1 y2 y3 y4 y5 y6 y7 y8 y9 x2 f2 H0
        have H0 := hide (show RowAtR w1 W0 wc (w4.heap.size + 1) ⟨(N : Int), t1, m2, t3, t4, t5, t6, t7, t8, t9⟩ from hcut.out)
        clear hcut
        go_upto_region 9 with fail
        go_cut [48] from 17 to 109 (fun v wx => v = .bool (decide (k = 0 ∨ t9 < b9)) ∧ Hid (RowAtR w1 W0 wx (w4.heap.size + 1) ⟨(N : Int), t1, m2, t3, t4, t5, t6, t7, t8, t9⟩))
        case first =>
          obtain ⟨y0, y1, y2, y3, y4, y5, y6, y7, y8, y9⟩ := H0.out.blk.tenR
          have x9 : wc.cell? ⟨b, o + k * 10 + 9, none⟩ = some (.int .i64 b9) := HX.out wc H0.out.only 9 (by omega)
          cases q1 : ((k : Int) == 0) with
          | true =>
            have HQ := hide (show decide (k = 0 ∨ t9 < b9) = true from by have : (k : Int) = 0 := by simpa using q1
                                                                          simp; omega)
            go_quiet (fail)
            go_wp2_with fail
            go_meet
            exact ⟨by rw [HQ.out], hide (H0.out.drewN _)⟩
          | false =>
            have HQ0 := hide (show ¬ k = 0 from by intro h; subst h; simp at q1)
            cases q2 : decide (t9 < b9) with
            | true =>
              have HQ := hide (show decide (k = 0 ∨ t9 < b9) = true from by have : t9 < b9 := by simpa using q2
                                                                            simp; omega)
              go_quiet (fail)
              go_wp2_with fail
              go_meet
              exact ⟨by rw [HQ.out], hide (H0.out.drewN _)⟩
            | false =>
              have HQ := hide (show decide (k = 0 ∨ t9 < b9) = false from by have h1 : ¬ t9 < b9 := by simpa using q2
                                                                             have h2 := HQ0.out
                                                                             simp; omega)
              go_quiet (fail)
              go_wp2_with fail
              go_meet
              exact ⟨by rw [HQ.out], hide (H0.out.drewN _)⟩
        case rest =>
          obtain ⟨rfl, H1⟩ := hcut
          clear H0
          obtain ⟨e9, he9⟩ : ∃ e9, e9 = if k = 0 ∨ t9 < b9 then b9 else t9 := ⟨_, rfl⟩
          rw [← he9] at HFin
          have HE9 := hide he9
          clear he9
          go_upto_if 48 with fail
          go_cut [] from 17 to 109 (fun wx => Hid (RowAtR w1 W0 wx (w4.heap.size + 1) ⟨(N : Int), t1, m2, t3, t4, t5, t6, t7, t8, e9⟩))
          case first =>
            obtain ⟨y0, y1, y2, y3, y4, y5, y6, y7, y8, y9⟩ := H1.out.blk.tenR
            have x9 : wc.cell? ⟨b, o + k * 10 + 9, none⟩ = some (.int .i64 b9) := HX.out wc H1.out.only 9 (by omega)
            have f9 := H1.out.blk.frozen 9
            cases q : decide (k = 0 ∨ t9 < b9) with
            | true =>
              have HQ := hide (show e9 = b9 from HE9.out.trans (if_pos (by simpa using q)))
              have HE := hide (H1.out.set_ (r' := ⟨(N : Int), t1, m2, t3, t4, t5, t6, t7, t8, b9⟩) hR1 9 (.int .i64 b9) rfl)
              go_wp2_with fail
              go_meet
              rw [HQ.out]
              exact HE
            | false =>
              have HQ := hide (show e9 = t9 from HE9.out.trans (if_neg (by simpa using q)))
              go_wp2_with fail
              go_meet
              rw [HQ.out]
              exact H1
          case rest =>
            have H2 := hide (show RowAtR w1 W0 wc (w4.heap.size + 1) ⟨(N : Int), t1, m2, t3, t4, t5, t6, t7, t8, e9⟩ from hcut.out)
            clear hcut H1 HE9
            obtain ⟨s8, hs8⟩ : ∃ s8, s8 = if b8 = 0 then wrap64 (t8 + 1) else t8 := ⟨_, rfl⟩
            rw [← hs8] at HFin
            have HS8 := hide hs8
            clear hs8
            obtain ⟨y0, y1, y2, y3, y4, y5, y6, y7, y8, y9⟩ := H2.out.blk.tenR
            have x8 : wc.cell? ⟨b, o + k * 10 + 8, none⟩ = some (.int .i64 b8) := HX.out wc H2.out.only 8 (by omega)
            have f8 := H2.out.blk.frozen 8
            go_upto_if 60 with fail
            go_cut [] from 17 to 109 (fun wx => Hid (RowAtR w1 W0 wx (w4.heap.size + 1) ⟨(N : Int), t1, m2, t3, t4, t5, t6, t7, s8, e9⟩))
            case first =>
              cases q : (b8 == 0) with
              | true =>
                have HQ := hide (show s8 = wrap64 (t8 + 1) from HS8.out.trans (if_pos (by simpa using q)))
                have HE := hide (H2.out.set_ (r' := ⟨(N : Int), t1, m2, t3, t4, t5, t6, t7, wrap64 (t8 + 1), e9⟩) hR1 8 (.int .i64 (wrap64 (t8 + 1))) rfl)
                go_wp2_with fail
                go_meet
                rw [HQ.out]
                exact HE
              | false =>
                have HQ := hide (show s8 = t8 from HS8.out.trans (if_neg (by simpa using q)))
                go_wp2_with fail
                go_meet
                rw [HQ.out]
                exact H2
            case rest =>
              have H3 := hide (show RowAtR w1 W0 wc (w4.heap.size + 1) ⟨(N : Int), t1, m2, t3, t4, t5, t6, t7, s8, e9⟩ from hcut.out)
              clear hcut H2 HS8 y0 y1 y2 y3 y4 y5 y6 y7 y8 y9 x8 f8
              obtain ⟨y0, y1, y2, y3, y4, y5, y6, y7, y8, y9⟩ := H3.out.blk.tenR
              have x3 : wc.cell? ⟨b, o + k * 10 + 3, none⟩ = some (.int .i64 b3) := HX.out wc H3.out.only 3 (by omega)
              have x4 : wc.cell? ⟨b, o + k * 10 + 4, none⟩ = some (.int .i64 b4) := HX.out wc H3.out.only 4 (by omega)
              have x5 : wc.cell? ⟨b, o + k * 10 + 5, none⟩ = some (.int .i64 b5) := HX.out wc H3.out.only 5 (by omega)
              have f3 := H3.out.blk.frozen 3
              have f4 := H3.out.blk.frozen 4
              have f5 := H3.out.blk.frozen 5

              go_upto_region 13 with fail
              clear y0 y1 y2 y3 y4 y5 y6 y7 y8 y9 x3 x4 x5 f3 f4 f5
              go_cut [] from 17 to 109 (fun wx => Hid (RowAtR w1 W0 wx (w4.heap.size + 1) ⟨(N : Int), t1, m2, IntKind.i64.wrap (t3 + b3), IntKind.i64.wrap (t4 + b4), IntKind.i64.wrap (t5 + b5), t6, t7, s8, e9⟩))
              case first =>
                refine wp_region_held (S := fun w' => w'.cell? ⟨b, o + k * 10 + 3, none⟩ = some (.int .i64 b3) ∧ w'.cell? ⟨b, o + k * 10 + 4, none⟩ = some (.int .i64 b4) ∧ w'.cell? ⟨b, o + k * 10 + 5, none⟩ = some (.int .i64 b5)) (by kernel_rfl) ?_
                change wpAnyH _ _ _ _ _ _ _ _ wc.drew
                obtain ⟨wd, hwd⟩ : ∃ wd, wd = wc.drew := ⟨_, rfl⟩
                have HD := hide (show RowAtR w1 W0 wd (w4.heap.size + 1) ⟨(N : Int), t1, m2, t3, t4, t5, t6, t7, s8, e9⟩ by rw [hwd]; exact H3.out.drew)
                rw [← hwd]
                simp only [List.size_toArray, List.length_cons, List.length_nil, Nat.zero_add, Nat.reduceAdd]
                clear hwd
                obtain ⟨y0, y1, y2, y3, y4, y5, y6, y7, y8, y9⟩ := HD.out.blk.tenR
                have x3 : wd.cell? ⟨b, o + k * 10 + 3, none⟩ = some (.int .i64 b3) := HX.out wd HD.out.only 3 (by omega)
                have f3 := HD.out.blk.frozen 3
                have x4 : wd.cell? ⟨b, o + k * 10 + 4, none⟩ = some (.int .i64 b4) := HX.out wd HD.out.only 4 (by omega)
                have f4 := HD.out.blk.frozen 4
                have x5 : wd.cell? ⟨b, o + k * 10 + 5, none⟩ = some (.int .i64 b5) := HX.out wd HD.out.only 5 (by omega)
                have f5 := HD.out.blk.frozen 5
                have hHeld : (fun w' => w'.cell? ⟨b, o + k * 10 + 3, none⟩ = some (.int .i64 b3) ∧ w'.cell? ⟨b, o + k * 10 + 4, none⟩ = some (.int .i64 b4) ∧ w'.cell? ⟨b, o + k * 10 + 5, none⟩ = some (.int .i64 b5)) wd := ⟨x3, x4, x5⟩
                refine wpAnyH_take (i := 0) (v := ?_) rfl (by kernel_rfl) (by kernel_rfl) (by kernel_rfl) (fun _ _ _ h => h) (Or.inl ⟨by rfl, ?_⟩) (by assumption) ?_
                rotate_left
                · (intro w9 hS9; try simp only [List.getElem_toArray, List.getElem_cons_zero, List.getElem_cons_succ]
                   go_simp <;> rfl)
                try simp only [Act.put, List.setIfInBounds_toArray, List.set_cons_zero, List.set_cons_succ, List.getElem_toArray, List.getElem_cons_zero, List.getElem_cons_succ]
                refine wpAnyH_take (i := 2) (v := ?_) rfl (by kernel_rfl) (by kernel_rfl) (by kernel_rfl) (fun _ _ _ h => h) (Or.inl ⟨by rfl, ?_⟩) (by assumption) ?_
                rotate_left
                · (intro w9 hS9; try simp only [List.getElem_toArray, List.getElem_cons_zero, List.getElem_cons_succ]
                   go_simp <;> rfl)
                try simp only [Act.put, List.setIfInBounds_toArray, List.set_cons_zero, List.set_cons_succ, List.getElem_toArray, List.getElem_cons_zero, List.getElem_cons_succ]
                refine wpAnyH_take (i := 3) (v := ?_) rfl (by kernel_rfl) (by kernel_rfl) (by kernel_rfl) (fun _ _ _ h => h) (Or.inl ⟨by rfl, ?_⟩) (by assumption) ?_
                rotate_left
                · (intro w9 hS9; try simp only [List.getElem_toArray, List.getElem_cons_zero, List.getElem_cons_succ]
                   go_simp <;> rfl)
                try simp only [Act.put, List.setIfInBounds_toArray, List.set_cons_zero, List.set_cons_succ, List.getElem_toArray, List.getElem_cons_zero, List.getElem_cons_succ]
                refine wpAnyH_take (i := 4) (v := ?_) rfl (by kernel_rfl) (by kernel_rfl) (by kernel_rfl) (fun _ _ _ h => h) (Or.inl ⟨by rfl, ?_⟩) (by assumption) ?_
                rotate_left
                · (intro w9 hS9; try simp only [List.getElem_toArray, List.getElem_cons_zero, List.getElem_cons_succ]
                   go_simp <;> rfl)
                try simp only [Act.put, List.setIfInBounds_toArray, List.set_cons_zero, List.set_cons_succ, List.getElem_toArray, List.getElem_cons_zero, List.getElem_cons_succ]
                refine wpAnyH_take (i := 5) (v := ?_) rfl (by kernel_rfl) (by kernel_rfl) (by kernel_rfl) (fun _ _ _ h => h) (Or.inl ⟨by rfl, ?_⟩) (by assumption) ?_
                rotate_left
                · (intro w9 hS9; try simp only [List.getElem_toArray, List.getElem_cons_zero, List.getElem_cons_succ]
                   go_simp <;> rfl)
                try simp only [Act.put, List.setIfInBounds_toArray, List.set_cons_zero, List.set_cons_succ, List.getElem_toArray, List.getElem_cons_zero, List.getElem_cons_succ]
                refine wpAnyH_take (i := 6) (v := ?_) rfl (by kernel_rfl) (by kernel_rfl) (by kernel_rfl) (fun _ _ _ h => h) (Or.inl ⟨by rfl, ?_⟩) (by assumption) ?_
                rotate_left
                · (intro w9 hS9; try simp only [List.getElem_toArray, List.getElem_cons_zero, List.getElem_cons_succ]
                   go_simp <;> rfl)
                try simp only [Act.put, List.setIfInBounds_toArray, List.set_cons_zero, List.set_cons_succ, List.getElem_toArray, List.getElem_cons_zero, List.getElem_cons_succ]
                refine wpAnyH_take (i := 8) (v := ?_) rfl (by kernel_rfl) (by kernel_rfl) (by kernel_rfl) (fun _ _ _ h => h) (Or.inl ⟨by rfl, ?_⟩) (by assumption) ?_
                rotate_left
                · (intro w9 hS9; try simp only [List.getElem_toArray, List.getElem_cons_zero, List.getElem_cons_succ]
                   go_simp <;> rfl)
                try simp only [Act.put, List.setIfInBounds_toArray, List.set_cons_zero, List.set_cons_succ, List.getElem_toArray, List.getElem_cons_zero, List.getElem_cons_succ]
                refine wpAnyH_take (i := 10) (v := ?_) rfl (by kernel_rfl) (by kernel_rfl) (by kernel_rfl) (fun _ _ _ h => h) (Or.inl ⟨by rfl, ?_⟩) (by assumption) ?_
                rotate_left
                · (intro w9 hS9; try simp only [List.getElem_toArray, List.getElem_cons_zero, List.getElem_cons_succ]
                   go_simp <;> rfl)
                try simp only [Act.put, List.setIfInBounds_toArray, List.set_cons_zero, List.set_cons_succ, List.getElem_toArray, List.getElem_cons_zero, List.getElem_cons_succ]
                refine wpAnyH_take (i := 11) (v := ?_) rfl (by kernel_rfl) (by kernel_rfl) (by kernel_rfl) (fun _ _ _ h => h) (Or.inl ⟨by rfl, ?_⟩) (by assumption) ?_
                rotate_left
                · (intro w9 hS9; try simp only [List.getElem_toArray, List.getElem_cons_zero, List.getElem_cons_succ]
                   go_simp <;> rfl)
                try simp only [Act.put, List.setIfInBounds_toArray, List.set_cons_zero, List.set_cons_succ, List.getElem_toArray, List.getElem_cons_zero, List.getElem_cons_succ]
                refine wpAnyH_take (i := 12) (v := ?_) rfl (by kernel_rfl) (by kernel_rfl) (by kernel_rfl) (fun _ _ _ h => h) (Or.inl ⟨by rfl, ?_⟩) (by assumption) ?_
                rotate_left
                · (intro w9 hS9; try simp only [List.getElem_toArray, List.getElem_cons_zero, List.getElem_cons_succ]
                   go_simp <;> rfl)
                try simp only [Act.put, List.setIfInBounds_toArray, List.set_cons_zero, List.set_cons_succ, List.getElem_toArray, List.getElem_cons_zero, List.getElem_cons_succ]
                refine wpAnyH_take (i := 13) (v := ?_) rfl (by kernel_rfl) (by kernel_rfl) (by kernel_rfl) (fun _ _ _ h => h) (Or.inl ⟨by rfl, ?_⟩) (by assumption) ?_
                rotate_left
                · (intro w9 hS9; try simp only [List.getElem_toArray, List.getElem_cons_zero, List.getElem_cons_succ]
                   go_simp <;> rfl)
                try simp only [Act.put, List.setIfInBounds_toArray, List.set_cons_zero, List.set_cons_succ, List.getElem_toArray, List.getElem_cons_zero, List.getElem_cons_succ]
                refine wpAnyH_take (i := 14) (v := ?_) rfl (by kernel_rfl) (by kernel_rfl) (by kernel_rfl) (fun _ _ _ h => h) (Or.inl ⟨by rfl, ?_⟩) (by assumption) ?_
                rotate_left
                · (intro w9 hS9; try simp only [List.getElem_toArray, List.getElem_cons_zero, List.getElem_cons_succ]
                   go_simp <;> rfl)
                try simp only [Act.put, List.setIfInBounds_toArray, List.set_cons_zero, List.set_cons_succ, List.getElem_toArray, List.getElem_cons_zero, List.getElem_cons_succ]
                refine wpAnyH_take (i := 16) (v := ?_) rfl (by kernel_rfl) (by kernel_rfl) (by kernel_rfl) (fun _ _ _ h => h) (Or.inl ⟨by rfl, ?_⟩) (by assumption) ?_
                rotate_left
                · (intro w9 hS9; try simp only [List.getElem_toArray, List.getElem_cons_zero, List.getElem_cons_succ]
                   go_simp <;> rfl)
                try simp only [Act.put, List.setIfInBounds_toArray, List.set_cons_zero, List.set_cons_succ, List.getElem_toArray, List.getElem_cons_zero, List.getElem_cons_succ]
                refine wpAnyH_take (i := 18) (v := ?_) rfl (by kernel_rfl) (by kernel_rfl) (by kernel_rfl) (fun _ _ _ h => h) (Or.inl ⟨by rfl, ?_⟩) (by assumption) ?_
                rotate_left
                · (intro w9 hS9; try simp only [List.getElem_toArray, List.getElem_cons_zero, List.getElem_cons_succ]
                   go_simp <;> rfl)
                try simp only [Act.put, List.setIfInBounds_toArray, List.set_cons_zero, List.set_cons_succ, List.getElem_toArray, List.getElem_cons_zero, List.getElem_cons_succ]
                refine wpAnyH_take (i := 19) (v := ?_) rfl (by kernel_rfl) (by kernel_rfl) (by kernel_rfl) (fun _ _ _ h => h) (Or.inl ⟨by rfl, ?_⟩) (by assumption) ?_
                rotate_left
                · (intro w9 hS9; try simp only [List.getElem_toArray, List.getElem_cons_zero, List.getElem_cons_succ]
                   go_simp <;> rfl)
                try simp only [Act.put, List.setIfInBounds_toArray, List.set_cons_zero, List.set_cons_succ, List.getElem_toArray, List.getElem_cons_zero, List.getElem_cons_succ]
                refine wpAnyH_take (i := 20) (v := ?_) rfl (by kernel_rfl) (by kernel_rfl) (by kernel_rfl) (fun _ _ _ h => h) (Or.inl ⟨by rfl, ?_⟩) (by assumption) ?_
                rotate_left
                · (intro w9 hS9; try simp only [List.getElem_toArray, List.getElem_cons_zero, List.getElem_cons_succ]
                   go_simp <;> rfl)
                try simp only [Act.put, List.setIfInBounds_toArray, List.set_cons_zero, List.set_cons_succ, List.getElem_toArray, List.getElem_cons_zero, List.getElem_cons_succ]
                refine wpAnyH_take (i := 21) (v := ?_) rfl (by kernel_rfl) (by kernel_rfl) (by kernel_rfl) (fun _ _ _ h => h) (Or.inl ⟨by rfl, ?_⟩) (by assumption) ?_
                rotate_left
                · (intro w9 hS9; try simp only [List.getElem_toArray, List.getElem_cons_zero, List.getElem_cons_succ]
                   go_simp <;> rfl)
                try simp only [Act.put, List.setIfInBounds_toArray, List.set_cons_zero, List.set_cons_succ, List.getElem_toArray, List.getElem_cons_zero, List.getElem_cons_succ]
                refine wpAnyH_take (i := 22) (v := ?_) rfl (by kernel_rfl) (by kernel_rfl) (by kernel_rfl) (fun _ _ _ h => h) (Or.inl ⟨by rfl, ?_⟩) (by assumption) ?_
                rotate_left
                · (intro w9 hS9; try simp only [List.getElem_toArray, List.getElem_cons_zero, List.getElem_cons_succ]
                   go_simp <;> rfl)
                try simp only [Act.put, List.setIfInBounds_toArray, List.set_cons_zero, List.set_cons_succ, List.getElem_toArray, List.getElem_cons_zero, List.getElem_cons_succ]
                refine wpAnyH_ready (rs := [1, 9, 17]) (by kernel_rfl) (by simp) ?_
                refine AllReadyH.cons rfl (fun K hK => ?_) (AllReadyH.cons rfl (fun K hK => ?_) (AllReadyH.cons rfl (fun K hK => ?_) (AllReadyH.nil)))
                ·
                  try simp only [List.getElem_toArray, List.getElem_cons_zero, List.getElem_cons_succ]
                  try go_simp
                  refine hK.out _ _ ⟨x3, x4, x5⟩ (fun hHeld => ?_)
                  clear hK K
                  try simp only [Act.put, List.setIfInBounds_toArray, List.set_cons_zero, List.set_cons_succ, List.getElem_toArray, List.getElem_cons_zero, List.getElem_cons_succ]
                  refine wpAnyH_take (i := 7) (v := ?_) rfl (by kernel_rfl) (by kernel_rfl) (by kernel_rfl) (fun _ _ _ h => h) (Or.inl ⟨by rfl, ?_⟩) (by assumption) ?_
                  rotate_left
                  · (intro w9 hS9; try simp only [List.getElem_toArray, List.getElem_cons_zero, List.getElem_cons_succ]
                     go_simp <;> rfl)
                  try simp only [Act.put, List.setIfInBounds_toArray, List.set_cons_zero, List.set_cons_succ, List.getElem_toArray, List.getElem_cons_zero, List.getElem_cons_succ]
                  refine wpAnyH_ready (rs := [9, 17]) (by kernel_rfl) (by simp) ?_
                  refine AllReadyH.cons rfl (fun K hK => ?_) (AllReadyH.cons rfl (fun K hK => ?_) (AllReadyH.nil))
                  ·
                    try simp only [List.getElem_toArray, List.getElem_cons_zero, List.getElem_cons_succ]
                    try go_simp
                    refine hK.out _ _ ⟨x3, x4, x5⟩ (fun hHeld => ?_)
                    clear hK K
                    try simp only [Act.put, List.setIfInBounds_toArray, List.set_cons_zero, List.set_cons_succ, List.getElem_toArray, List.getElem_cons_zero, List.getElem_cons_succ]
                    refine wpAnyH_take (i := 15) (v := ?_) rfl (by kernel_rfl) (by kernel_rfl) (by kernel_rfl) (fun _ _ _ h => h) (Or.inl ⟨by rfl, ?_⟩) (by assumption) ?_
                    rotate_left
                    · (intro w9 hS9; try simp only [List.getElem_toArray, List.getElem_cons_zero, List.getElem_cons_succ]
                       go_simp <;> rfl)
                    try simp only [Act.put, List.setIfInBounds_toArray, List.set_cons_zero, List.set_cons_succ, List.getElem_toArray, List.getElem_cons_zero, List.getElem_cons_succ]
                    refine wpAnyH_ready (rs := [17]) (by kernel_rfl) (by simp) ?_
                    refine AllReadyH.cons rfl (fun K hK => ?_) (AllReadyH.nil)
                    try simp only [List.getElem_toArray, List.getElem_cons_zero, List.getElem_cons_succ]
                    try go_simp
                    refine hK.out _ _ ⟨x3, x4, x5⟩ (fun hHeld => ?_)
                    clear hK K
                    try simp only [Act.put, List.setIfInBounds_toArray, List.set_cons_zero, List.set_cons_succ, List.getElem_toArray, List.getElem_cons_zero, List.getElem_cons_succ]
                    refine wpAnyH_take (i := 23) (v := ?_) rfl (by kernel_rfl) (by kernel_rfl) (by kernel_rfl) (fun _ _ _ h => h) (Or.inl ⟨by rfl, ?_⟩) (by assumption) ?_
                    rotate_left
                    · (intro w9 hS9; try simp only [List.getElem_toArray, List.getElem_cons_zero, List.getElem_cons_succ]
                       go_simp <;> rfl)
                    try simp only [Act.put, List.setIfInBounds_toArray, List.set_cons_zero, List.set_cons_succ, List.getElem_toArray, List.getElem_cons_zero, List.getElem_cons_succ]
                    refine wpAnyH_take (i := 24) (v := ?_) rfl (by kernel_rfl) (by kernel_rfl) (by kernel_rfl) (fun _ _ _ h => h) (Or.inl ⟨by rfl, ?_⟩) (by assumption) ?_
                    rotate_left
                    · (intro w9 hS9; try simp only [List.getElem_toArray, List.getElem_cons_zero, List.getElem_cons_succ]
                       go_simp <;> rfl)
                    try simp only [Act.put, List.setIfInBounds_toArray, List.set_cons_zero, List.set_cons_succ, List.getElem_toArray, List.getElem_cons_zero, List.getElem_cons_succ]
                    refine wpAnyH_ready (rs := [25]) (by kernel_rfl) (by simp) ?_
                    refine AllReadyH.cons rfl (fun K hK => ?_) (AllReadyH.nil)
                    have HS0 := hide (HD.out.set_ (r' := ⟨(N : Int), t1, m2, IntKind.i64.wrap (t3 + b3), t4, t5, t6, t7, s8, e9⟩) hR1 3 (.int .i64 (IntKind.i64.wrap (t3 + b3))) rfl)
                    try simp only [List.getElem_toArray, List.getElem_cons_zero, List.getElem_cons_succ]
                    try go_simp
                    refine hK.out _ _ ⟨HX.out _ HS0.out.only 3 (by omega), HX.out _ HS0.out.only 4 (by omega), HX.out _ HS0.out.only 5 (by omega)⟩ (fun hHeld => ?_)
                    clear hK K
                    try simp only [Act.put, List.setIfInBounds_toArray, List.set_cons_zero, List.set_cons_succ, List.getElem_toArray, List.getElem_cons_zero, List.getElem_cons_succ]
                    refine wpAnyH_take (i := 26) (v := ?_) rfl (by kernel_rfl) (by kernel_rfl) (by kernel_rfl) (fun _ _ _ h => h) (Or.inl ⟨by rfl, ?_⟩) (by assumption) ?_
                    rotate_left
                    · (intro w9 hS9; try simp only [List.getElem_toArray, List.getElem_cons_zero, List.getElem_cons_succ]
                       go_simp <;> rfl)
                    try simp only [Act.put, List.setIfInBounds_toArray, List.set_cons_zero, List.set_cons_succ, List.getElem_toArray, List.getElem_cons_zero, List.getElem_cons_succ]
                    refine wpAnyH_ready (rs := [27]) (by kernel_rfl) (by simp) ?_
                    refine AllReadyH.cons rfl (fun K hK => ?_) (AllReadyH.nil)
                    have HS1 := hide (HS0.out.set_ (r' := ⟨(N : Int), t1, m2, IntKind.i64.wrap (t3 + b3), IntKind.i64.wrap (t4 + b4), t5, t6, t7, s8, e9⟩) hR1 4 (.int .i64 (IntKind.i64.wrap (t4 + b4))) rfl)
                    try simp only [List.getElem_toArray, List.getElem_cons_zero, List.getElem_cons_succ]
                    try go_simp
                    refine hK.out _ _ ⟨HX.out _ HS1.out.only 3 (by omega), HX.out _ HS1.out.only 4 (by omega), HX.out _ HS1.out.only 5 (by omega)⟩ (fun hHeld => ?_)
                    clear hK K
                    try simp only [Act.put, List.setIfInBounds_toArray, List.set_cons_zero, List.set_cons_succ, List.getElem_toArray, List.getElem_cons_zero, List.getElem_cons_succ]
                    refine wpAnyH_take (i := 28) (v := ?_) rfl (by kernel_rfl) (by kernel_rfl) (by kernel_rfl) (fun _ _ _ h => h) (Or.inl ⟨by rfl, ?_⟩) (by assumption) ?_
                    rotate_left
                    · (intro w9 hS9; try simp only [List.getElem_toArray, List.getElem_cons_zero, List.getElem_cons_succ]
                       go_simp <;> rfl)
                    try simp only [Act.put, List.setIfInBounds_toArray, List.set_cons_zero, List.set_cons_succ, List.getElem_toArray, List.getElem_cons_zero, List.getElem_cons_succ]
                    refine wpAnyH_ready (rs := [29]) (by kernel_rfl) (by simp) ?_
                    refine AllReadyH.cons rfl (fun K hK => ?_) (AllReadyH.nil)
                    have HS2 := hide (HS1.out.set_ (r' := ⟨(N : Int), t1, m2, IntKind.i64.wrap (t3 + b3), IntKind.i64.wrap (t4 + b4), IntKind.i64.wrap (t5 + b5), t6, t7, s8, e9⟩) hR1 5 (.int .i64 (IntKind.i64.wrap (t5 + b5))) rfl)
                    try simp only [List.getElem_toArray, List.getElem_cons_zero, List.getElem_cons_succ]
                    try go_simp
                    refine hK.out _ _ ⟨HX.out _ HS2.out.only 3 (by omega), HX.out _ HS2.out.only 4 (by omega), HX.out _ HS2.out.only 5 (by omega)⟩ (fun hHeld => ?_)
                    clear hK K
                    try simp only [Act.put, List.setIfInBounds_toArray, List.set_cons_zero, List.set_cons_succ, List.getElem_toArray, List.getElem_cons_zero, List.getElem_cons_succ]
                    refine wpAnyH_done (by kernel_rfl) ?_ _
                    clear hHeld
                    go_wp2_with fail
                    go_meet
                    exact HS2
                  ·
                    try simp only [List.getElem_toArray, List.getElem_cons_zero, List.getElem_cons_succ]
                    try go_simp
                    refine hK.out _ _ ⟨x3, x4, x5⟩ (fun hHeld => ?_)
                    clear hK K
                    try simp only [Act.put, List.setIfInBounds_toArray, List.set_cons_zero, List.set_cons_succ, List.getElem_toArray, List.getElem_cons_zero, List.getElem_cons_succ]
                    refine wpAnyH_take (i := 23) (v := ?_) rfl (by kernel_rfl) (by kernel_rfl) (by kernel_rfl) (fun _ _ _ h => h) (Or.inl ⟨by rfl, ?_⟩) (by assumption) ?_
                    rotate_left
                    · (intro w9 hS9; try simp only [List.getElem_toArray, List.getElem_cons_zero, List.getElem_cons_succ]
                       go_simp <;> rfl)
                    try simp only [Act.put, List.setIfInBounds_toArray, List.set_cons_zero, List.set_cons_succ, List.getElem_toArray, List.getElem_cons_zero, List.getElem_cons_succ]
                    refine wpAnyH_ready (rs := [9]) (by kernel_rfl) (by simp) ?_
                    refine AllReadyH.cons rfl (fun K hK => ?_) (AllReadyH.nil)
                    try simp only [List.getElem_toArray, List.getElem_cons_zero, List.getElem_cons_succ]
                    try go_simp
                    refine hK.out _ _ ⟨x3, x4, x5⟩ (fun hHeld => ?_)
                    clear hK K
                    try simp only [Act.put, List.setIfInBounds_toArray, List.set_cons_zero, List.set_cons_succ, List.getElem_toArray, List.getElem_cons_zero, List.getElem_cons_succ]
                    refine wpAnyH_take (i := 15) (v := ?_) rfl (by kernel_rfl) (by kernel_rfl) (by kernel_rfl) (fun _ _ _ h => h) (Or.inl ⟨by rfl, ?_⟩) (by assumption) ?_
                    rotate_left
                    · (intro w9 hS9; try simp only [List.getElem_toArray, List.getElem_cons_zero, List.getElem_cons_succ]
                       go_simp <;> rfl)
                    try simp only [Act.put, List.setIfInBounds_toArray, List.set_cons_zero, List.set_cons_succ, List.getElem_toArray, List.getElem_cons_zero, List.getElem_cons_succ]
                    refine wpAnyH_take (i := 24) (v := ?_) rfl (by kernel_rfl) (by kernel_rfl) (by kernel_rfl) (fun _ _ _ h => h) (Or.inl ⟨by rfl, ?_⟩) (by assumption) ?_
                    rotate_left
                    · (intro w9 hS9; try simp only [List.getElem_toArray, List.getElem_cons_zero, List.getElem_cons_succ]
                       go_simp <;> rfl)
                    try simp only [Act.put, List.setIfInBounds_toArray, List.set_cons_zero, List.set_cons_succ, List.getElem_toArray, List.getElem_cons_zero, List.getElem_cons_succ]
                    refine wpAnyH_ready (rs := [25]) (by kernel_rfl) (by simp) ?_
                    refine AllReadyH.cons rfl (fun K hK => ?_) (AllReadyH.nil)
                    have HS0 := hide (HD.out.set_ (r' := ⟨(N : Int), t1, m2, IntKind.i64.wrap (t3 + b3), t4, t5, t6, t7, s8, e9⟩) hR1 3 (.int .i64 (IntKind.i64.wrap (t3 + b3))) rfl)
                    try simp only [List.getElem_toArray, List.getElem_cons_zero, List.getElem_cons_succ]
                    try go_simp
                    refine hK.out _ _ ⟨HX.out _ HS0.out.only 3 (by omega), HX.out _ HS0.out.only 4 (by omega), HX.out _ HS0.out.only 5 (by omega)⟩ (fun hHeld => ?_)
                    clear hK K
                    try simp only [Act.put, List.setIfInBounds_toArray, List.set_cons_zero, List.set_cons_succ, List.getElem_toArray, List.getElem_cons_zero, List.getElem_cons_succ]
                    refine wpAnyH_take (i := 26) (v := ?_) rfl (by kernel_rfl) (by kernel_rfl) (by kernel_rfl) (fun _ _ _ h => h) (Or.inl ⟨by rfl, ?_⟩) (by assumption) ?_
                    rotate_left
                    · (intro w9 hS9; try simp only [List.getElem_toArray, List.getElem_cons_zero, List.getElem_cons_succ]
                       go_simp <;> rfl)
                    try simp only [Act.put, List.setIfInBounds_toArray, List.set_cons_zero, List.set_cons_succ, List.getElem_toArray, List.getElem_cons_zero, List.getElem_cons_succ]
                    refine wpAnyH_ready (rs := [27]) (by kernel_rfl) (by simp) ?_
                    refine AllReadyH.cons rfl (fun K hK => ?_) (AllReadyH.nil)
                    have HS1 := hide (HS0.out.set_ (r' := ⟨(N : Int), t1, m2, IntKind.i64.wrap (t3 + b3), IntKind.i64.wrap (t4 + b4), t5, t6, t7, s8, e9⟩) hR1 4 (.int .i64 (IntKind.i64.wrap (t4 + b4))) rfl)
                    try simp only [List.getElem_toArray, List.getElem_cons_zero, List.getElem_cons_succ]
                    try go_simp
                    refine hK.out _ _ ⟨HX.out _ HS1.out.only 3 (by omega), HX.out _ HS1.out.only 4 (by omega), HX.out _ HS1.out.only 5 (by omega)⟩ (fun hHeld => ?_)
                    clear hK K
                    try simp only [Act.put, List.setIfInBounds_toArray, List.set_cons_zero, List.set_cons_succ, List.getElem_toArray, List.getElem_cons_zero, List.getElem_cons_succ]
                    refine wpAnyH_take (i := 28) (v := ?_) rfl (by kernel_rfl) (by kernel_rfl) (by kernel_rfl) (fun _ _ _ h => h) (Or.inl ⟨by rfl, ?_⟩) (by assumption) ?_
                    rotate_left
                    · (intro w9 hS9; try simp only [List.getElem_toArray, List.getElem_cons_zero, List.getElem_cons_succ]
                       go_simp <;> rfl)
                    try simp only [Act.put, List.setIfInBounds_toArray, List.set_cons_zero, List.set_cons_succ, List.getElem_toArray, List.getElem_cons_zero, List.getElem_cons_succ]
                    refine wpAnyH_ready (rs := [29]) (by kernel_rfl) (by simp) ?_
                    refine AllReadyH.cons rfl (fun K hK => ?_) (AllReadyH.nil)
                    have HS2 := hide (HS1.out.set_ (r' := ⟨(N : Int), t1, m2, IntKind.i64.wrap (t3 + b3), IntKind.i64.wrap (t4 + b4), IntKind.i64.wrap (t5 + b5), t6, t7, s8, e9⟩) hR1 5 (.int .i64 (IntKind.i64.wrap (t5 + b5))) rfl)
                    try simp only [List.getElem_toArray, List.getElem_cons_zero, List.getElem_cons_succ]
                    try go_simp
                    refine hK.out _ _ ⟨HX.out _ HS2.out.only 3 (by omega), HX.out _ HS2.out.only 4 (by omega), HX.out _ HS2.out.only 5 (by omega)⟩ (fun hHeld => ?_)
                    clear hK K
                    try simp only [Act.put, List.setIfInBounds_toArray, List.set_cons_zero, List.set_cons_succ, List.getElem_toArray, List.getElem_cons_zero, List.getElem_cons_succ]
                    refine wpAnyH_done (by kernel_rfl) ?_ _
                    clear hHeld
                    go_wp2_with fail
                    go_meet
                    exact HS2
                ·
                  try simp only [List.getElem_toArray, List.getElem_cons_zero, List.getElem_cons_succ]
                  try go_simp
                  refine hK.out _ _ ⟨x3, x4, x5⟩ (fun hHeld => ?_)
                  clear hK K
                  try simp only [Act.put, List.setIfInBounds_toArray, List.set_cons_zero, List.set_cons_succ, List.getElem_toArray, List.getElem_cons_zero, List.getElem_cons_succ]
                  refine wpAnyH_take (i := 15) (v := ?_) rfl (by kernel_rfl) (by kernel_rfl) (by kernel_rfl) (fun _ _ _ h => h) (Or.inl ⟨by rfl, ?_⟩) (by assumption) ?_
                  rotate_left
                  · (intro w9 hS9; try simp only [List.getElem_toArray, List.getElem_cons_zero, List.getElem_cons_succ]
                     go_simp <;> rfl)
                  try simp only [Act.put, List.setIfInBounds_toArray, List.set_cons_zero, List.set_cons_succ, List.getElem_toArray, List.getElem_cons_zero, List.getElem_cons_succ]
                  refine wpAnyH_ready (rs := [1, 17]) (by kernel_rfl) (by simp) ?_
                  refine AllReadyH.cons rfl (fun K hK => ?_) (AllReadyH.cons rfl (fun K hK => ?_) (AllReadyH.nil))
                  ·
                    try simp only [List.getElem_toArray, List.getElem_cons_zero, List.getElem_cons_succ]
                    try go_simp
                    refine hK.out _ _ ⟨x3, x4, x5⟩ (fun hHeld => ?_)
                    clear hK K
                    try simp only [Act.put, List.setIfInBounds_toArray, List.set_cons_zero, List.set_cons_succ, List.getElem_toArray, List.getElem_cons_zero, List.getElem_cons_succ]
                    refine wpAnyH_take (i := 7) (v := ?_) rfl (by kernel_rfl) (by kernel_rfl) (by kernel_rfl) (fun _ _ _ h => h) (Or.inl ⟨by rfl, ?_⟩) (by assumption) ?_
                    rotate_left
                    · (intro w9 hS9; try simp only [List.getElem_toArray, List.getElem_cons_zero, List.getElem_cons_succ]
                       go_simp <;> rfl)
                    try simp only [Act.put, List.setIfInBounds_toArray, List.set_cons_zero, List.set_cons_succ, List.getElem_toArray, List.getElem_cons_zero, List.getElem_cons_succ]
                    refine wpAnyH_ready (rs := [17]) (by kernel_rfl) (by simp) ?_
                    refine AllReadyH.cons rfl (fun K hK => ?_) (AllReadyH.nil)
                    try simp only [List.getElem_toArray, List.getElem_cons_zero, List.getElem_cons_succ]
                    try go_simp
                    refine hK.out _ _ ⟨x3, x4, x5⟩ (fun hHeld => ?_)
                    clear hK K
                    try simp only [Act.put, List.setIfInBounds_toArray, List.set_cons_zero, List.set_cons_succ, List.getElem_toArray, List.getElem_cons_zero, List.getElem_cons_succ]
                    refine wpAnyH_take (i := 23) (v := ?_) rfl (by kernel_rfl) (by kernel_rfl) (by kernel_rfl) (fun _ _ _ h => h) (Or.inl ⟨by rfl, ?_⟩) (by assumption) ?_
                    rotate_left
                    · (intro w9 hS9; try simp only [List.getElem_toArray, List.getElem_cons_zero, List.getElem_cons_succ]
                       go_simp <;> rfl)
                    try simp only [Act.put, List.setIfInBounds_toArray, List.set_cons_zero, List.set_cons_succ, List.getElem_toArray, List.getElem_cons_zero, List.getElem_cons_succ]
                    refine wpAnyH_take (i := 24) (v := ?_) rfl (by kernel_rfl) (by kernel_rfl) (by kernel_rfl) (fun _ _ _ h => h) (Or.inl ⟨by rfl, ?_⟩) (by assumption) ?_
                    rotate_left
                    · (intro w9 hS9; try simp only [List.getElem_toArray, List.getElem_cons_zero, List.getElem_cons_succ]
                       go_simp <;> rfl)
                    try simp only [Act.put, List.setIfInBounds_toArray, List.set_cons_zero, List.set_cons_succ, List.getElem_toArray, List.getElem_cons_zero, List.getElem_cons_succ]
                    refine wpAnyH_ready (rs := [25]) (by kernel_rfl) (by simp) ?_
                    refine AllReadyH.cons rfl (fun K hK => ?_) (AllReadyH.nil)
                    have HS0 := hide (HD.out.set_ (r' := ⟨(N : Int), t1, m2, IntKind.i64.wrap (t3 + b3), t4, t5, t6, t7, s8, e9⟩) hR1 3 (.int .i64 (IntKind.i64.wrap (t3 + b3))) rfl)
                    try simp only [List.getElem_toArray, List.getElem_cons_zero, List.getElem_cons_succ]
                    try go_simp
                    refine hK.out _ _ ⟨HX.out _ HS0.out.only 3 (by omega), HX.out _ HS0.out.only 4 (by omega), HX.out _ HS0.out.only 5 (by omega)⟩ (fun hHeld => ?_)
                    clear hK K
                    try simp only [Act.put, List.setIfInBounds_toArray, List.set_cons_zero, List.set_cons_succ, List.getElem_toArray, List.getElem_cons_zero, List.getElem_cons_succ]
                    refine wpAnyH_take (i := 26) (v := ?_) rfl (by kernel_rfl) (by kernel_rfl) (by kernel_rfl) (fun _ _ _ h => h) (Or.inl ⟨by rfl, ?_⟩) (by assumption) ?_
                    rotate_left
                    · (intro w9 hS9; try simp only [List.getElem_toArray, List.getElem_cons_zero, List.getElem_cons_succ]
                       go_simp <;> rfl)
                    try simp only [Act.put, List.setIfInBounds_toArray, List.set_cons_zero, List.set_cons_succ, List.getElem_toArray, List.getElem_cons_zero, List.getElem_cons_succ]
                    refine wpAnyH_ready (rs := [27]) (by kernel_rfl) (by simp) ?_
                    refine AllReadyH.cons rfl (fun K hK => ?_) (AllReadyH.nil)
                    have HS1 := hide (HS0.out.set_ (r' := ⟨(N : Int), t1, m2, IntKind.i64.wrap (t3 + b3), IntKind.i64.wrap (t4 + b4), t5, t6, t7, s8, e9⟩) hR1 4 (.int .i64 (IntKind.i64.wrap (t4 + b4))) rfl)
                    try simp only [List.getElem_toArray, List.getElem_cons_zero, List.getElem_cons_succ]
                    try go_simp
                    refine hK.out _ _ ⟨HX.out _ HS1.out.only 3 (by omega), HX.out _ HS1.out.only 4 (by omega), HX.out _ HS1.out.only 5 (by omega)⟩ (fun hHeld => ?_)
                    clear hK K
                    try simp only [Act.put, List.setIfInBounds_toArray, List.set_cons_zero, List.set_cons_succ, List.getElem_toArray, List.getElem_cons_zero, List.getElem_cons_succ]
                    refine wpAnyH_take (i := 28) (v := ?_) rfl (by kernel_rfl) (by kernel_rfl) (by kernel_rfl) (fun _ _ _ h => h) (Or.inl ⟨by rfl, ?_⟩) (by assumption) ?_
                    rotate_left
                    · (intro w9 hS9; try simp only [List.getElem_toArray, List.getElem_cons_zero, List.getElem_cons_succ]
                       go_simp <;> rfl)
                    try simp only [Act.put, List.setIfInBounds_toArray, List.set_cons_zero, List.set_cons_succ, List.getElem_toArray, List.getElem_cons_zero, List.getElem_cons_succ]
                    refine wpAnyH_ready (rs := [29]) (by kernel_rfl) (by simp) ?_
                    refine AllReadyH.cons rfl (fun K hK => ?_) (AllReadyH.nil)
                    have HS2 := hide (HS1.out.set_ (r' := ⟨(N : Int), t1, m2, IntKind.i64.wrap (t3 + b3), IntKind.i64.wrap (t4 + b4), IntKind.i64.wrap (t5 + b5), t6, t7, s8, e9⟩) hR1 5 (.int .i64 (IntKind.i64.wrap (t5 + b5))) rfl)
                    try simp only [List.getElem_toArray, List.getElem_cons_zero, List.getElem_cons_succ]
                    try go_simp
                    refine hK.out _ _ ⟨HX.out _ HS2.out.only 3 (by omega), HX.out _ HS2.out.only 4 (by omega), HX.out _ HS2.out.only 5 (by omega)⟩ (fun hHeld => ?_)
                    clear hK K
                    try simp only [Act.put, List.setIfInBounds_toArray, List.set_cons_zero, List.set_cons_succ, List.getElem_toArray, List.getElem_cons_zero, List.getElem_cons_succ]
                    refine wpAnyH_done (by kernel_rfl) ?_ _
                    clear hHeld
                    go_wp2_with fail
                    go_meet
                    exact HS2
                  ·
                    try simp only [List.getElem_toArray, List.getElem_cons_zero, List.getElem_cons_succ]
                    try go_simp
                    refine hK.out _ _ ⟨x3, x4, x5⟩ (fun hHeld => ?_)
                    clear hK K
                    try simp only [Act.put, List.setIfInBounds_toArray, List.set_cons_zero, List.set_cons_succ, List.getElem_toArray, List.getElem_cons_zero, List.getElem_cons_succ]
                    refine wpAnyH_take (i := 23) (v := ?_) rfl (by kernel_rfl) (by kernel_rfl) (by kernel_rfl) (fun _ _ _ h => h) (Or.inl ⟨by rfl, ?_⟩) (by assumption) ?_
                    rotate_left
                    · (intro w9 hS9; try simp only [List.getElem_toArray, List.getElem_cons_zero, List.getElem_cons_succ]
                       go_simp <;> rfl)
                    try simp only [Act.put, List.setIfInBounds_toArray, List.set_cons_zero, List.set_cons_succ, List.getElem_toArray, List.getElem_cons_zero, List.getElem_cons_succ]
                    refine wpAnyH_ready (rs := [1]) (by kernel_rfl) (by simp) ?_
                    refine AllReadyH.cons rfl (fun K hK => ?_) (AllReadyH.nil)
                    try simp only [List.getElem_toArray, List.getElem_cons_zero, List.getElem_cons_succ]
                    try go_simp
                    refine hK.out _ _ ⟨x3, x4, x5⟩ (fun hHeld => ?_)
                    clear hK K
                    try simp only [Act.put, List.setIfInBounds_toArray, List.set_cons_zero, List.set_cons_succ, List.getElem_toArray, List.getElem_cons_zero, List.getElem_cons_succ]
                    refine wpAnyH_take (i := 7) (v := ?_) rfl (by kernel_rfl) (by kernel_rfl) (by kernel_rfl) (fun _ _ _ h => h) (Or.inl ⟨by rfl, ?_⟩) (by assumption) ?_
                    rotate_left
                    · (intro w9 hS9; try simp only [List.getElem_toArray, List.getElem_cons_zero, List.getElem_cons_succ]
                       go_simp <;> rfl)
                    try simp only [Act.put, List.setIfInBounds_toArray, List.set_cons_zero, List.set_cons_succ, List.getElem_toArray, List.getElem_cons_zero, List.getElem_cons_succ]
                    refine wpAnyH_take (i := 24) (v := ?_) rfl (by kernel_rfl) (by kernel_rfl) (by kernel_rfl) (fun _ _ _ h => h) (Or.inl ⟨by rfl, ?_⟩) (by assumption) ?_
                    rotate_left
                    · (intro w9 hS9; try simp only [List.getElem_toArray, List.getElem_cons_zero, List.getElem_cons_succ]
                       go_simp <;> rfl)
                    try simp only [Act.put, List.setIfInBounds_toArray, List.set_cons_zero, List.set_cons_succ, List.getElem_toArray, List.getElem_cons_zero, List.getElem_cons_succ]
                    refine wpAnyH_ready (rs := [25]) (by kernel_rfl) (by simp) ?_
                    refine AllReadyH.cons rfl (fun K hK => ?_) (AllReadyH.nil)
                    have HS0 := hide (HD.out.set_ (r' := ⟨(N : Int), t1, m2, IntKind.i64.wrap (t3 + b3), t4, t5, t6, t7, s8, e9⟩) hR1 3 (.int .i64 (IntKind.i64.wrap (t3 + b3))) rfl)
                    try simp only [List.getElem_toArray, List.getElem_cons_zero, List.getElem_cons_succ]
                    try go_simp
                    refine hK.out _ _ ⟨HX.out _ HS0.out.only 3 (by omega), HX.out _ HS0.out.only 4 (by omega), HX.out _ HS0.out.only 5 (by omega)⟩ (fun hHeld => ?_)
                    clear hK K
                    try simp only [Act.put, List.setIfInBounds_toArray, List.set_cons_zero, List.set_cons_succ, List.getElem_toArray, List.getElem_cons_zero, List.getElem_cons_succ]
                    refine wpAnyH_take (i := 26) (v := ?_) rfl (by kernel_rfl) (by kernel_rfl) (by kernel_rfl) (fun _ _ _ h => h) (Or.inl ⟨by rfl, ?_⟩) (by assumption) ?_
                    rotate_left
                    · (intro w9 hS9; try simp only [List.getElem_toArray, List.getElem_cons_zero, List.getElem_cons_succ]
                       go_simp <;> rfl)
                    try simp only [Act.put, List.setIfInBounds_toArray, List.set_cons_zero, List.set_cons_succ, List.getElem_toArray, List.getElem_cons_zero, List.getElem_cons_succ]
                    refine wpAnyH_ready (rs := [27]) (by kernel_rfl) (by simp) ?_
                    refine AllReadyH.cons rfl (fun K hK => ?_) (AllReadyH.nil)
                    have HS1 := hide (HS0.out.set_ (r' := ⟨(N : Int), t1, m2, IntKind.i64.wrap (t3 + b3), IntKind.i64.wrap (t4 + b4), t5, t6, t7, s8, e9⟩) hR1 4 (.int .i64 (IntKind.i64.wrap (t4 + b4))) rfl)
                    try simp only [List.getElem_toArray, List.getElem_cons_zero, List.getElem_cons_succ]
                    try go_simp
                    refine hK.out _ _ ⟨HX.out _ HS1.out.only 3 (by omega), HX.out _ HS1.out.only 4 (by omega), HX.out _ HS1.out.only 5 (by omega)⟩ (fun hHeld => ?_)
                    clear hK K
                    try simp only [Act.put, List.setIfInBounds_toArray, List.set_cons_zero, List.set_cons_succ, List.getElem_toArray, List.getElem_cons_zero, List.getElem_cons_succ]
                    refine wpAnyH_take (i := 28) (v := ?_) rfl (by kernel_rfl) (by kernel_rfl) (by kernel_rfl) (fun _ _ _ h => h) (Or.inl ⟨by rfl, ?_⟩) (by assumption) ?_
                    rotate_left
                    · (intro w9 hS9; try simp only [List.getElem_toArray, List.getElem_cons_zero, List.getElem_cons_succ]
                       go_simp <;> rfl)
                    try simp only [Act.put, List.setIfInBounds_toArray, List.set_cons_zero, List.set_cons_succ, List.getElem_toArray, List.getElem_cons_zero, List.getElem_cons_succ]
                    refine wpAnyH_ready (rs := [29]) (by kernel_rfl) (by simp) ?_
                    refine AllReadyH.cons rfl (fun K hK => ?_) (AllReadyH.nil)
                    have HS2 := hide (HS1.out.set_ (r' := ⟨(N : Int), t1, m2, IntKind.i64.wrap (t3 + b3), IntKind.i64.wrap (t4 + b4), IntKind.i64.wrap (t5 + b5), t6, t7, s8, e9⟩) hR1 5 (.int .i64 (IntKind.i64.wrap (t5 + b5))) rfl)
                    try simp only [List.getElem_toArray, List.getElem_cons_zero, List.getElem_cons_succ]
                    try go_simp
                    refine hK.out _ _ ⟨HX.out _ HS2.out.only 3 (by omega), HX.out _ HS2.out.only 4 (by omega), HX.out _ HS2.out.only 5 (by omega)⟩ (fun hHeld => ?_)
                    clear hK K
                    try simp only [Act.put, List.setIfInBounds_toArray, List.set_cons_zero, List.set_cons_succ, List.getElem_toArray, List.getElem_cons_zero, List.getElem_cons_succ]
                    refine wpAnyH_done (by kernel_rfl) ?_ _
                    clear hHeld
                    go_wp2_with fail
                    go_meet
                    exact HS2
                ·
                  try simp only [List.getElem_toArray, List.getElem_cons_zero, List.getElem_cons_succ]
                  try go_simp
                  refine hK.out _ _ ⟨x3, x4, x5⟩ (fun hHeld => ?_)
                  clear hK K
                  try simp only [Act.put, List.setIfInBounds_toArray, List.set_cons_zero, List.set_cons_succ, List.getElem_toArray, List.getElem_cons_zero, List.getElem_cons_succ]
                  refine wpAnyH_take (i := 23) (v := ?_) rfl (by kernel_rfl) (by kernel_rfl) (by kernel_rfl) (fun _ _ _ h => h) (Or.inl ⟨by rfl, ?_⟩) (by assumption) ?_
                  rotate_left
                  · (intro w9 hS9; try simp only [List.getElem_toArray, List.getElem_cons_zero, List.getElem_cons_succ]
                     go_simp <;> rfl)
                  try simp only [Act.put, List.setIfInBounds_toArray, List.set_cons_zero, List.set_cons_succ, List.getElem_toArray, List.getElem_cons_zero, List.getElem_cons_succ]
                  refine wpAnyH_ready (rs := [1, 9]) (by kernel_rfl) (by simp) ?_
                  refine AllReadyH.cons rfl (fun K hK => ?_) (AllReadyH.cons rfl (fun K hK => ?_) (AllReadyH.nil))
                  ·
                    try simp only [List.getElem_toArray, List.getElem_cons_zero, List.getElem_cons_succ]
                    try go_simp
                    refine hK.out _ _ ⟨x3, x4, x5⟩ (fun hHeld => ?_)
                    clear hK K
                    try simp only [Act.put, List.setIfInBounds_toArray, List.set_cons_zero, List.set_cons_succ, List.getElem_toArray, List.getElem_cons_zero, List.getElem_cons_succ]
                    refine wpAnyH_take (i := 7) (v := ?_) rfl (by kernel_rfl) (by kernel_rfl) (by kernel_rfl) (fun _ _ _ h => h) (Or.inl ⟨by rfl, ?_⟩) (by assumption) ?_
                    rotate_left
                    · (intro w9 hS9; try simp only [List.getElem_toArray, List.getElem_cons_zero, List.getElem_cons_succ]
                       go_simp <;> rfl)
                    try simp only [Act.put, List.setIfInBounds_toArray, List.set_cons_zero, List.set_cons_succ, List.getElem_toArray, List.getElem_cons_zero, List.getElem_cons_succ]
                    refine wpAnyH_ready (rs := [9]) (by kernel_rfl) (by simp) ?_
                    refine AllReadyH.cons rfl (fun K hK => ?_) (AllReadyH.nil)
                    try simp only [List.getElem_toArray, List.getElem_cons_zero, List.getElem_cons_succ]
                    try go_simp
                    refine hK.out _ _ ⟨x3, x4, x5⟩ (fun hHeld => ?_)
                    clear hK K
                    try simp only [Act.put, List.setIfInBounds_toArray, List.set_cons_zero, List.set_cons_succ, List.getElem_toArray, List.getElem_cons_zero, List.getElem_cons_succ]
                    refine wpAnyH_take (i := 15) (v := ?_) rfl (by kernel_rfl) (by kernel_rfl) (by kernel_rfl) (fun _ _ _ h => h) (Or.inl ⟨by rfl, ?_⟩) (by assumption) ?_
                    rotate_left
                    · (intro w9 hS9; try simp only [List.getElem_toArray, List.getElem_cons_zero, List.getElem_cons_succ]
                       go_simp <;> rfl)
                    try simp only [Act.put, List.setIfInBounds_toArray, List.set_cons_zero, List.set_cons_succ, List.getElem_toArray, List.getElem_cons_zero, List.getElem_cons_succ]
                    refine wpAnyH_take (i := 24) (v := ?_) rfl (by kernel_rfl) (by kernel_rfl) (by kernel_rfl) (fun _ _ _ h => h) (Or.inl ⟨by rfl, ?_⟩) (by assumption) ?_
                    rotate_left
                    · (intro w9 hS9; try simp only [List.getElem_toArray, List.getElem_cons_zero, List.getElem_cons_succ]
                       go_simp <;> rfl)
                    try simp only [Act.put, List.setIfInBounds_toArray, List.set_cons_zero, List.set_cons_succ, List.getElem_toArray, List.getElem_cons_zero, List.getElem_cons_succ]
                    refine wpAnyH_ready (rs := [25]) (by kernel_rfl) (by simp) ?_
                    refine AllReadyH.cons rfl (fun K hK => ?_) (AllReadyH.nil)
                    have HS0 := hide (HD.out.set_ (r' := ⟨(N : Int), t1, m2, IntKind.i64.wrap (t3 + b3), t4, t5, t6, t7, s8, e9⟩) hR1 3 (.int .i64 (IntKind.i64.wrap (t3 + b3))) rfl)
                    try simp only [List.getElem_toArray, List.getElem_cons_zero, List.getElem_cons_succ]
                    try go_simp
                    refine hK.out _ _ ⟨HX.out _ HS0.out.only 3 (by omega), HX.out _ HS0.out.only 4 (by omega), HX.out _ HS0.out.only 5 (by omega)⟩ (fun hHeld => ?_)
                    clear hK K
                    try simp only [Act.put, List.setIfInBounds_toArray, List.set_cons_zero, List.set_cons_succ, List.getElem_toArray, List.getElem_cons_zero, List.getElem_cons_succ]
                    refine wpAnyH_take (i := 26) (v := ?_) rfl (by kernel_rfl) (by kernel_rfl) (by kernel_rfl) (fun _ _ _ h => h) (Or.inl ⟨by rfl, ?_⟩) (by assumption) ?_
                    rotate_left
                    · (intro w9 hS9; try simp only [List.getElem_toArray, List.getElem_cons_zero, List.getElem_cons_succ]
                       go_simp <;> rfl)
                    try simp only [Act.put, List.setIfInBounds_toArray, List.set_cons_zero, List.set_cons_succ, List.getElem_toArray, List.getElem_cons_zero, List.getElem_cons_succ]
                    refine wpAnyH_ready (rs := [27]) (by kernel_rfl) (by simp) ?_
                    refine AllReadyH.cons rfl (fun K hK => ?_) (AllReadyH.nil)
                    have HS1 := hide (HS0.out.set_ (r' := ⟨(N : Int), t1, m2, IntKind.i64.wrap (t3 + b3), IntKind.i64.wrap (t4 + b4), t5, t6, t7, s8, e9⟩) hR1 4 (.int .i64 (IntKind.i64.wrap (t4 + b4))) rfl)
                    try simp only [List.getElem_toArray, List.getElem_cons_zero, List.getElem_cons_succ]
                    try go_simp
                    refine hK.out _ _ ⟨HX.out _ HS1.out.only 3 (by omega), HX.out _ HS1.out.only 4 (by omega), HX.out _ HS1.out.only 5 (by omega)⟩ (fun hHeld => ?_)
                    clear hK K
                    try simp only [Act.put, List.setIfInBounds_toArray, List.set_cons_zero, List.set_cons_succ, List.getElem_toArray, List.getElem_cons_zero, List.getElem_cons_succ]
                    refine wpAnyH_take (i := 28) (v := ?_) rfl (by kernel_rfl) (by kernel_rfl) (by kernel_rfl) (fun _ _ _ h => h) (Or.inl ⟨by rfl, ?_⟩) (by assumption) ?_
                    rotate_left
                    · (intro w9 hS9; try simp only [List.getElem_toArray, List.getElem_cons_zero, List.getElem_cons_succ]
                       go_simp <;> rfl)
                    try simp only [Act.put, List.setIfInBounds_toArray, List.set_cons_zero, List.set_cons_succ, List.getElem_toArray, List.getElem_cons_zero, List.getElem_cons_succ]
                    refine wpAnyH_ready (rs := [29]) (by kernel_rfl) (by simp) ?_
                    refine AllReadyH.cons rfl (fun K hK => ?_) (AllReadyH.nil)
                    have HS2 := hide (HS1.out.set_ (r' := ⟨(N : Int), t1, m2, IntKind.i64.wrap (t3 + b3), IntKind.i64.wrap (t4 + b4), IntKind.i64.wrap (t5 + b5), t6, t7, s8, e9⟩) hR1 5 (.int .i64 (IntKind.i64.wrap (t5 + b5))) rfl)
                    try simp only [List.getElem_toArray, List.getElem_cons_zero, List.getElem_cons_succ]
                    try go_simp
                    refine hK.out _ _ ⟨HX.out _ HS2.out.only 3 (by omega), HX.out _ HS2.out.only 4 (by omega), HX.out _ HS2.out.only 5 (by omega)⟩ (fun hHeld => ?_)
                    clear hK K
                    try simp only [Act.put, List.setIfInBounds_toArray, List.set_cons_zero, List.set_cons_succ, List.getElem_toArray, List.getElem_cons_zero, List.getElem_cons_succ]
                    refine wpAnyH_done (by kernel_rfl) ?_ _
                    clear hHeld
                    go_wp2_with fail
                    go_meet
                    exact HS2
                  ·
                    try simp only [List.getElem_toArray, List.getElem_cons_zero, List.getElem_cons_succ]
                    try go_simp
                    refine hK.out _ _ ⟨x3, x4, x5⟩ (fun hHeld => ?_)
                    clear hK K
                    try simp only [Act.put, List.setIfInBounds_toArray, List.set_cons_zero, List.set_cons_succ, List.getElem_toArray, List.getElem_cons_zero, List.getElem_cons_succ]
                    refine wpAnyH_take (i := 15) (v := ?_) rfl (by kernel_rfl) (by kernel_rfl) (by kernel_rfl) (fun _ _ _ h => h) (Or.inl ⟨by rfl, ?_⟩) (by assumption) ?_
                    rotate_left
                    · (intro w9 hS9; try simp only [List.getElem_toArray, List.getElem_cons_zero, List.getElem_cons_succ]
                       go_simp <;> rfl)
                    try simp only [Act.put, List.setIfInBounds_toArray, List.set_cons_zero, List.set_cons_succ, List.getElem_toArray, List.getElem_cons_zero, List.getElem_cons_succ]
                    refine wpAnyH_ready (rs := [1]) (by kernel_rfl) (by simp) ?_
                    refine AllReadyH.cons rfl (fun K hK => ?_) (AllReadyH.nil)
                    try simp only [List.getElem_toArray, List.getElem_cons_zero, List.getElem_cons_succ]
                    try go_simp
                    refine hK.out _ _ ⟨x3, x4, x5⟩ (fun hHeld => ?_)
                    clear hK K
                    try simp only [Act.put, List.setIfInBounds_toArray, List.set_cons_zero, List.set_cons_succ, List.getElem_toArray, List.getElem_cons_zero, List.getElem_cons_succ]
                    refine wpAnyH_take (i := 7) (v := ?_) rfl (by kernel_rfl) (by kernel_rfl) (by kernel_rfl) (fun _ _ _ h => h) (Or.inl ⟨by rfl, ?_⟩) (by assumption) ?_
                    rotate_left
                    · (intro w9 hS9; try simp only [List.getElem_toArray, List.getElem_cons_zero, List.getElem_cons_succ]
                       go_simp <;> rfl)
                    try simp only [Act.put, List.setIfInBounds_toArray, List.set_cons_zero, List.set_cons_succ, List.getElem_toArray, List.getElem_cons_zero, List.getElem_cons_succ]
                    refine wpAnyH_take (i := 24) (v := ?_) rfl (by kernel_rfl) (by kernel_rfl) (by kernel_rfl) (fun _ _ _ h => h) (Or.inl ⟨by rfl, ?_⟩) (by assumption) ?_
                    rotate_left
                    · (intro w9 hS9; try simp only [List.getElem_toArray, List.getElem_cons_zero, List.getElem_cons_succ]
                       go_simp <;> rfl)
                    try simp only [Act.put, List.setIfInBounds_toArray, List.set_cons_zero, List.set_cons_succ, List.getElem_toArray, List.getElem_cons_zero, List.getElem_cons_succ]
                    refine wpAnyH_ready (rs := [25]) (by kernel_rfl) (by simp) ?_
                    refine AllReadyH.cons rfl (fun K hK => ?_) (AllReadyH.nil)
                    have HS0 := hide (HD.out.set_ (r' := ⟨(N : Int), t1, m2, IntKind.i64.wrap (t3 + b3), t4, t5, t6, t7, s8, e9⟩) hR1 3 (.int .i64 (IntKind.i64.wrap (t3 + b3))) rfl)
                    try simp only [List.getElem_toArray, List.getElem_cons_zero, List.getElem_cons_succ]
                    try go_simp
                    refine hK.out _ _ ⟨HX.out _ HS0.out.only 3 (by omega), HX.out _ HS0.out.only 4 (by omega), HX.out _ HS0.out.only 5 (by omega)⟩ (fun hHeld => ?_)
                    clear hK K
                    try simp only [Act.put, List.setIfInBounds_toArray, List.set_cons_zero, List.set_cons_succ, List.getElem_toArray, List.getElem_cons_zero, List.getElem_cons_succ]
                    refine wpAnyH_take (i := 26) (v := ?_) rfl (by kernel_rfl) (by kernel_rfl) (by kernel_rfl) (fun _ _ _ h => h) (Or.inl ⟨by rfl, ?_⟩) (by assumption) ?_
                    rotate_left
                    · (intro w9 hS9; try simp only [List.getElem_toArray, List.getElem_cons_zero, List.getElem_cons_succ]
                       go_simp <;> rfl)
                    try simp only [Act.put, List.setIfInBounds_toArray, List.set_cons_zero, List.set_cons_succ, List.getElem_toArray, List.getElem_cons_zero, List.getElem_cons_succ]
                    refine wpAnyH_ready (rs := [27]) (by kernel_rfl) (by simp) ?_
                    refine AllReadyH.cons rfl (fun K hK => ?_) (AllReadyH.nil)
                    have HS1 := hide (HS0.out.set_ (r' := ⟨(N : Int), t1, m2, IntKind.i64.wrap (t3 + b3), IntKind.i64.wrap (t4 + b4), t5, t6, t7, s8, e9⟩) hR1 4 (.int .i64 (IntKind.i64.wrap (t4 + b4))) rfl)
                    try simp only [List.getElem_toArray, List.getElem_cons_zero, List.getElem_cons_succ]
                    try go_simp
                    refine hK.out _ _ ⟨HX.out _ HS1.out.only 3 (by omega), HX.out _ HS1.out.only 4 (by omega), HX.out _ HS1.out.only 5 (by omega)⟩ (fun hHeld => ?_)
                    clear hK K
                    try simp only [Act.put, List.setIfInBounds_toArray, List.set_cons_zero, List.set_cons_succ, List.getElem_toArray, List.getElem_cons_zero, List.getElem_cons_succ]
                    refine wpAnyH_take (i := 28) (v := ?_) rfl (by kernel_rfl) (by kernel_rfl) (by kernel_rfl) (fun _ _ _ h => h) (Or.inl ⟨by rfl, ?_⟩) (by assumption) ?_
                    rotate_left
                    · (intro w9 hS9; try simp only [List.getElem_toArray, List.getElem_cons_zero, List.getElem_cons_succ]
                       go_simp <;> rfl)
                    try simp only [Act.put, List.setIfInBounds_toArray, List.set_cons_zero, List.set_cons_succ, List.getElem_toArray, List.getElem_cons_zero, List.getElem_cons_succ]
                    refine wpAnyH_ready (rs := [29]) (by kernel_rfl) (by simp) ?_
                    refine AllReadyH.cons rfl (fun K hK => ?_) (AllReadyH.nil)
                    have HS2 := hide (HS1.out.set_ (r' := ⟨(N : Int), t1, m2, IntKind.i64.wrap (t3 + b3), IntKind.i64.wrap (t4 + b4), IntKind.i64.wrap (t5 + b5), t6, t7, s8, e9⟩) hR1 5 (.int .i64 (IntKind.i64.wrap (t5 + b5))) rfl)
                    try simp only [List.getElem_toArray, List.getElem_cons_zero, List.getElem_cons_succ]
                    try go_simp
                    refine hK.out _ _ ⟨HX.out _ HS2.out.only 3 (by omega), HX.out _ HS2.out.only 4 (by omega), HX.out _ HS2.out.only 5 (by omega)⟩ (fun hHeld => ?_)
                    clear hK K
                    try simp only [Act.put, List.setIfInBounds_toArray, List.set_cons_zero, List.set_cons_succ, List.getElem_toArray, List.getElem_cons_zero, List.getElem_cons_succ]
                    refine wpAnyH_done (by kernel_rfl) ?_ _
                    clear hHeld
                    go_wp2_with fail
                    go_meet
                    exact HS2
              case rest =>
                have H4 := hide (show RowAtR w1 W0 wc (w4.heap.size + 1) ⟨(N : Int), t1, m2, IntKind.i64.wrap (t3 + b3), IntKind.i64.wrap (t4 + b4), IntKind.i64.wrap (t5 + b5), t6, t7, s8, e9⟩ from hcut.out)
                clear hcut H3
                go_upto_region 14 with fail

                refine wp_region_held (S := fun w' => w'.cell? ⟨b, o + k * 10 + 6, none⟩ = some (.int .i64 b6) ∧ w'.cell? ⟨b, o + k * 10 + 7, none⟩ = some (.int .i64 b7)) (by kernel_rfl) ?_
                change wpAnyH _ _ _ _ _ _ _ _ wc.drew
                obtain ⟨wd, hwd⟩ : ∃ wd, wd = wc.drew := ⟨_, rfl⟩
                have HD := hide (show RowAtR w1 W0 wd (w4.heap.size + 1) ⟨(N : Int), t1, m2, IntKind.i64.wrap (t3 + b3), IntKind.i64.wrap (t4 + b4), IntKind.i64.wrap (t5 + b5), t6, t7, s8, e9⟩ by rw [hwd]; exact H4.out.drew)
                rw [← hwd]
                simp only [List.size_toArray, List.length_cons, List.length_nil, Nat.zero_add, Nat.reduceAdd]
                clear hwd
                obtain ⟨y0, y1, y2, y3, y4, y5, y6, y7, y8, y9⟩ := HD.out.blk.tenR
                have x6 : wd.cell? ⟨b, o + k * 10 + 6, none⟩ = some (.int .i64 b6) := HX.out wd HD.out.only 6 (by omega)
                have f6 := HD.out.blk.frozen 6
                have x7 : wd.cell? ⟨b, o + k * 10 + 7, none⟩ = some (.int .i64 b7) := HX.out wd HD.out.only 7 (by omega)
                have f7 := HD.out.blk.frozen 7
                have hHeld : (fun w' => w'.cell? ⟨b, o + k * 10 + 6, none⟩ = some (.int .i64 b6) ∧ w'.cell? ⟨b, o + k * 10 + 7, none⟩ = some (.int .i64 b7)) wd := ⟨x6, x7⟩
                refine wpAnyH_take (i := 0) (v := ?_) rfl (by kernel_rfl) (by kernel_rfl) (by kernel_rfl) (fun _ _ _ h => h) (Or.inl ⟨by rfl, ?_⟩) (by assumption) ?_
                rotate_left
                · (intro w9 hS9; try simp only [List.getElem_toArray, List.getElem_cons_zero, List.getElem_cons_succ]
                   go_simp <;> rfl)
                try simp only [Act.put, List.setIfInBounds_toArray, List.set_cons_zero, List.set_cons_succ, List.getElem_toArray, List.getElem_cons_zero, List.getElem_cons_succ]
                refine wpAnyH_take (i := 2) (v := ?_) rfl (by kernel_rfl) (by kernel_rfl) (by kernel_rfl) (fun _ _ _ h => h) (Or.inl ⟨by rfl, ?_⟩) (by assumption) ?_
                rotate_left
                · (intro w9 hS9; try simp only [List.getElem_toArray, List.getElem_cons_zero, List.getElem_cons_succ]
                   go_simp <;> rfl)
                try simp only [Act.put, List.setIfInBounds_toArray, List.set_cons_zero, List.set_cons_succ, List.getElem_toArray, List.getElem_cons_zero, List.getElem_cons_succ]
                refine wpAnyH_take (i := 3) (v := ?_) rfl (by kernel_rfl) (by kernel_rfl) (by kernel_rfl) (fun _ _ _ h => h) (Or.inl ⟨by rfl, ?_⟩) (by assumption) ?_
                rotate_left
                · (intro w9 hS9; try simp only [List.getElem_toArray, List.getElem_cons_zero, List.getElem_cons_succ]
                   go_simp <;> rfl)
                try simp only [Act.put, List.setIfInBounds_toArray, List.set_cons_zero, List.set_cons_succ, List.getElem_toArray, List.getElem_cons_zero, List.getElem_cons_succ]
                refine wpAnyH_take (i := 4) (v := ?_) rfl (by kernel_rfl) (by kernel_rfl) (by kernel_rfl) (fun _ _ _ h => h) (Or.inl ⟨by rfl, ?_⟩) (by assumption) ?_
                rotate_left
                · (intro w9 hS9; try simp only [List.getElem_toArray, List.getElem_cons_zero, List.getElem_cons_succ]
                   go_simp <;> rfl)
                try simp only [Act.put, List.setIfInBounds_toArray, List.set_cons_zero, List.set_cons_succ, List.getElem_toArray, List.getElem_cons_zero, List.getElem_cons_succ]
                refine wpAnyH_take (i := 5) (v := ?_) rfl (by kernel_rfl) (by kernel_rfl) (by kernel_rfl) (fun _ _ _ h => h) (Or.inl ⟨by rfl, ?_⟩) (by assumption) ?_
                rotate_left
                · (intro w9 hS9; try simp only [List.getElem_toArray, List.getElem_cons_zero, List.getElem_cons_succ]
                   go_simp <;> rfl)
                try simp only [Act.put, List.setIfInBounds_toArray, List.set_cons_zero, List.set_cons_succ, List.getElem_toArray, List.getElem_cons_zero, List.getElem_cons_succ]
                refine wpAnyH_take (i := 6) (v := ?_) rfl (by kernel_rfl) (by kernel_rfl) (by kernel_rfl) (fun _ _ _ h => h) (Or.inl ⟨by rfl, ?_⟩) (by assumption) ?_
                rotate_left
                · (intro w9 hS9; try simp only [List.getElem_toArray, List.getElem_cons_zero, List.getElem_cons_succ]
                   go_simp <;> rfl)
                try simp only [Act.put, List.setIfInBounds_toArray, List.set_cons_zero, List.set_cons_succ, List.getElem_toArray, List.getElem_cons_zero, List.getElem_cons_succ]
                refine wpAnyH_take (i := 8) (v := ?_) rfl (by kernel_rfl) (by kernel_rfl) (by kernel_rfl) (fun _ _ _ h => h) (Or.inl ⟨by rfl, ?_⟩) (by assumption) ?_
                rotate_left
                · (intro w9 hS9; try simp only [List.getElem_toArray, List.getElem_cons_zero, List.getElem_cons_succ]
                   go_simp <;> rfl)
                try simp only [Act.put, List.setIfInBounds_toArray, List.set_cons_zero, List.set_cons_succ, List.getElem_toArray, List.getElem_cons_zero, List.getElem_cons_succ]
                refine wpAnyH_take (i := 10) (v := ?_) rfl (by kernel_rfl) (by kernel_rfl) (by kernel_rfl) (fun _ _ _ h => h) (Or.inl ⟨by rfl, ?_⟩) (by assumption) ?_
                rotate_left
                · (intro w9 hS9; try simp only [List.getElem_toArray, List.getElem_cons_zero, List.getElem_cons_succ]
                   go_simp <;> rfl)
                try simp only [Act.put, List.setIfInBounds_toArray, List.set_cons_zero, List.set_cons_succ, List.getElem_toArray, List.getElem_cons_zero, List.getElem_cons_succ]
                refine wpAnyH_take (i := 11) (v := ?_) rfl (by kernel_rfl) (by kernel_rfl) (by kernel_rfl) (fun _ _ _ h => h) (Or.inl ⟨by rfl, ?_⟩) (by assumption) ?_
                rotate_left
                · (intro w9 hS9; try simp only [List.getElem_toArray, List.getElem_cons_zero, List.getElem_cons_succ]
                   go_simp <;> rfl)
                try simp only [Act.put, List.setIfInBounds_toArray, List.set_cons_zero, List.set_cons_succ, List.getElem_toArray, List.getElem_cons_zero, List.getElem_cons_succ]
                refine wpAnyH_take (i := 12) (v := ?_) rfl (by kernel_rfl) (by kernel_rfl) (by kernel_rfl) (fun _ _ _ h => h) (Or.inl ⟨by rfl, ?_⟩) (by assumption) ?_
                rotate_left
                · (intro w9 hS9; try simp only [List.getElem_toArray, List.getElem_cons_zero, List.getElem_cons_succ]
                   go_simp <;> rfl)
                try simp only [Act.put, List.setIfInBounds_toArray, List.set_cons_zero, List.set_cons_succ, List.getElem_toArray, List.getElem_cons_zero, List.getElem_cons_succ]
                refine wpAnyH_take (i := 13) (v := ?_) rfl (by kernel_rfl) (by kernel_rfl) (by kernel_rfl) (fun _ _ _ h => h) (Or.inl ⟨by rfl, ?_⟩) (by assumption) ?_
                rotate_left
                · (intro w9 hS9; try simp only [List.getElem_toArray, List.getElem_cons_zero, List.getElem_cons_succ]
                   go_simp <;> rfl)
                try simp only [Act.put, List.setIfInBounds_toArray, List.set_cons_zero, List.set_cons_succ, List.getElem_toArray, List.getElem_cons_zero, List.getElem_cons_succ]
                refine wpAnyH_take (i := 14) (v := ?_) rfl (by kernel_rfl) (by kernel_rfl) (by kernel_rfl) (fun _ _ _ h => h) (Or.inl ⟨by rfl, ?_⟩) (by assumption) ?_
                rotate_left
                · (intro w9 hS9; try simp only [List.getElem_toArray, List.getElem_cons_zero, List.getElem_cons_succ]
                   go_simp <;> rfl)
                try simp only [Act.put, List.setIfInBounds_toArray, List.set_cons_zero, List.set_cons_succ, List.getElem_toArray, List.getElem_cons_zero, List.getElem_cons_succ]
                refine wpAnyH_ready (rs := [1, 9]) (by kernel_rfl) (by simp) ?_
                refine AllReadyH.cons rfl (fun K hK => ?_) (AllReadyH.cons rfl (fun K hK => ?_) (AllReadyH.nil))
                ·
                  try simp only [List.getElem_toArray, List.getElem_cons_zero, List.getElem_cons_succ]
                  try go_simp
                  refine hK.out _ _ ⟨x6, x7⟩ (fun hHeld => ?_)
                  clear hK K
                  try simp only [Act.put, List.setIfInBounds_toArray, List.set_cons_zero, List.set_cons_succ, List.getElem_toArray, List.getElem_cons_zero, List.getElem_cons_succ]
                  refine wpAnyH_take (i := 7) (v := ?_) rfl (by kernel_rfl) (by kernel_rfl) (by kernel_rfl) (fun _ _ _ h => h) (Or.inl ⟨by rfl, ?_⟩) (by assumption) ?_
                  rotate_left
                  · (intro w9 hS9; try simp only [List.getElem_toArray, List.getElem_cons_zero, List.getElem_cons_succ]
                     go_simp <;> rfl)
                  try simp only [Act.put, List.setIfInBounds_toArray, List.set_cons_zero, List.set_cons_succ, List.getElem_toArray, List.getElem_cons_zero, List.getElem_cons_succ]
                  refine wpAnyH_ready (rs := [9]) (by kernel_rfl) (by simp) ?_
                  refine AllReadyH.cons rfl (fun K hK => ?_) (AllReadyH.nil)
                  try simp only [List.getElem_toArray, List.getElem_cons_zero, List.getElem_cons_succ]
                  try go_simp
                  refine hK.out _ _ ⟨x6, x7⟩ (fun hHeld => ?_)
                  clear hK K
                  try simp only [Act.put, List.setIfInBounds_toArray, List.set_cons_zero, List.set_cons_succ, List.getElem_toArray, List.getElem_cons_zero, List.getElem_cons_succ]
                  refine wpAnyH_take (i := 15) (v := ?_) rfl (by kernel_rfl) (by kernel_rfl) (by kernel_rfl) (fun _ _ _ h => h) (Or.inl ⟨by rfl, ?_⟩) (by assumption) ?_
                  rotate_left
                  · (intro w9 hS9; try simp only [List.getElem_toArray, List.getElem_cons_zero, List.getElem_cons_succ]
                     go_simp <;> rfl)
                  try simp only [Act.put, List.setIfInBounds_toArray, List.set_cons_zero, List.set_cons_succ, List.getElem_toArray, List.getElem_cons_zero, List.getElem_cons_succ]
                  refine wpAnyH_take (i := 16) (v := ?_) rfl (by kernel_rfl) (by kernel_rfl) (by kernel_rfl) (fun _ _ _ h => h) (Or.inl ⟨by rfl, ?_⟩) (by assumption) ?_
                  rotate_left
                  · (intro w9 hS9; try simp only [List.getElem_toArray, List.getElem_cons_zero, List.getElem_cons_succ]
                     go_simp <;> rfl)
                  try simp only [Act.put, List.setIfInBounds_toArray, List.set_cons_zero, List.set_cons_succ, List.getElem_toArray, List.getElem_cons_zero, List.getElem_cons_succ]
                  refine wpAnyH_ready (rs := [17]) (by kernel_rfl) (by simp) ?_
                  refine AllReadyH.cons rfl (fun K hK => ?_) (AllReadyH.nil)
                  have HS0 := hide (HD.out.set_ (r' := ⟨(N : Int), t1, m2, IntKind.i64.wrap (t3 + b3), IntKind.i64.wrap (t4 + b4), IntKind.i64.wrap (t5 + b5), IntKind.i64.wrap (t6 + b6), t7, s8, e9⟩) hR1 6 (.int .i64 (IntKind.i64.wrap (t6 + b6))) rfl)
                  try simp only [List.getElem_toArray, List.getElem_cons_zero, List.getElem_cons_succ]
                  try go_simp
                  refine hK.out _ _ ⟨HX.out _ HS0.out.only 6 (by omega), HX.out _ HS0.out.only 7 (by omega)⟩ (fun hHeld => ?_)
                  clear hK K
                  try simp only [Act.put, List.setIfInBounds_toArray, List.set_cons_zero, List.set_cons_succ, List.getElem_toArray, List.getElem_cons_zero, List.getElem_cons_succ]
                  refine wpAnyH_take (i := 18) (v := ?_) rfl (by kernel_rfl) (by kernel_rfl) (by kernel_rfl) (fun _ _ _ h => h) (Or.inl ⟨by rfl, ?_⟩) (by assumption) ?_
                  rotate_left
                  · (intro w9 hS9; try simp only [List.getElem_toArray, List.getElem_cons_zero, List.getElem_cons_succ]
                     go_simp <;> rfl)
                  try simp only [Act.put, List.setIfInBounds_toArray, List.set_cons_zero, List.set_cons_succ, List.getElem_toArray, List.getElem_cons_zero, List.getElem_cons_succ]
                  refine wpAnyH_ready (rs := [19]) (by kernel_rfl) (by simp) ?_
                  refine AllReadyH.cons rfl (fun K hK => ?_) (AllReadyH.nil)
                  have HS1 := hide (HS0.out.set_ (r' := ⟨(N : Int), t1, m2, IntKind.i64.wrap (t3 + b3), IntKind.i64.wrap (t4 + b4), IntKind.i64.wrap (t5 + b5), IntKind.i64.wrap (t6 + b6), IntKind.i64.wrap (t7 + b7), s8, e9⟩) hR1 7 (.int .i64 (IntKind.i64.wrap (t7 + b7))) rfl)
                  try simp only [List.getElem_toArray, List.getElem_cons_zero, List.getElem_cons_succ]
                  try go_simp
                  refine hK.out _ _ ⟨HX.out _ HS1.out.only 6 (by omega), HX.out _ HS1.out.only 7 (by omega)⟩ (fun hHeld => ?_)
                  clear hK K
                  try simp only [Act.put, List.setIfInBounds_toArray, List.set_cons_zero, List.set_cons_succ, List.getElem_toArray, List.getElem_cons_zero, List.getElem_cons_succ]
                  refine wpAnyH_done (by kernel_rfl) ?_ _
                  clear hHeld
                  go_wp2_with fail
                  go_roundw
                  case rel => exact ⟨k + 1, by omega, by go_num, hide (by
                    rw [HFin.out]
                    have h := HS1.out
                    simp only [IntWalk.i64_left] at h ⊢
                    exact h)⟩
                  case measure => simp [intOf]; omega
                ·
                  try simp only [List.getElem_toArray, List.getElem_cons_zero, List.getElem_cons_succ]
                  try go_simp
                  refine hK.out _ _ ⟨x6, x7⟩ (fun hHeld => ?_)
                  clear hK K
                  try simp only [Act.put, List.setIfInBounds_toArray, List.set_cons_zero, List.set_cons_succ, List.getElem_toArray, List.getElem_cons_zero, List.getElem_cons_succ]
                  refine wpAnyH_take (i := 15) (v := ?_) rfl (by kernel_rfl) (by kernel_rfl) (by kernel_rfl) (fun _ _ _ h => h) (Or.inl ⟨by rfl, ?_⟩) (by assumption) ?_
                  rotate_left
                  · (intro w9 hS9; try simp only [List.getElem_toArray, List.getElem_cons_zero, List.getElem_cons_succ]
                     go_simp <;> rfl)
                  try simp only [Act.put, List.setIfInBounds_toArray, List.set_cons_zero, List.set_cons_succ, List.getElem_toArray, List.getElem_cons_zero, List.getElem_cons_succ]
                  refine wpAnyH_ready (rs := [1]) (by kernel_rfl) (by simp) ?_
                  refine AllReadyH.cons rfl (fun K hK => ?_) (AllReadyH.nil)
                  try simp only [List.getElem_toArray, List.getElem_cons_zero, List.getElem_cons_succ]
                  try go_simp
                  refine hK.out _ _ ⟨x6, x7⟩ (fun hHeld => ?_)
                  clear hK K
                  try simp only [Act.put, List.setIfInBounds_toArray, List.set_cons_zero, List.set_cons_succ, List.getElem_toArray, List.getElem_cons_zero, List.getElem_cons_succ]
                  refine wpAnyH_take (i := 7) (v := ?_) rfl (by kernel_rfl) (by kernel_rfl) (by kernel_rfl) (fun _ _ _ h => h) (Or.inl ⟨by rfl, ?_⟩) (by assumption) ?_
                  rotate_left
                  · (intro w9 hS9; try simp only [List.getElem_toArray, List.getElem_cons_zero, List.getElem_cons_succ]
                     go_simp <;> rfl)
                  try simp only [Act.put, List.setIfInBounds_toArray, List.set_cons_zero, List.set_cons_succ, List.getElem_toArray, List.getElem_cons_zero, List.getElem_cons_succ]
                  refine wpAnyH_take (i := 16) (v := ?_) rfl (by kernel_rfl) (by kernel_rfl) (by kernel_rfl) (fun _ _ _ h => h) (Or.inl ⟨by rfl, ?_⟩) (by assumption) ?_
                  rotate_left
                  · (intro w9 hS9; try simp only [List.getElem_toArray, List.getElem_cons_zero, List.getElem_cons_succ]
                     go_simp <;> rfl)
                  try simp only [Act.put, List.setIfInBounds_toArray, List.set_cons_zero, List.set_cons_succ, List.getElem_toArray, List.getElem_cons_zero, List.getElem_cons_succ]
                  refine wpAnyH_ready (rs := [17]) (by kernel_rfl) (by simp) ?_
                  refine AllReadyH.cons rfl (fun K hK => ?_) (AllReadyH.nil)
                  have HS0 := hide (HD.out.set_ (r' := ⟨(N : Int), t1, m2, IntKind.i64.wrap (t3 + b3), IntKind.i64.wrap (t4 + b4), IntKind.i64.wrap (t5 + b5), IntKind.i64.wrap (t6 + b6), t7, s8, e9⟩) hR1 6 (.int .i64 (IntKind.i64.wrap (t6 + b6))) rfl)
                  try simp only [List.getElem_toArray, List.getElem_cons_zero, List.getElem_cons_succ]
                  try go_simp
                  refine hK.out _ _ ⟨HX.out _ HS0.out.only 6 (by omega), HX.out _ HS0.out.only 7 (by omega)⟩ (fun hHeld => ?_)
                  clear hK K
                  try simp only [Act.put, List.setIfInBounds_toArray, List.set_cons_zero, List.set_cons_succ, List.getElem_toArray, List.getElem_cons_zero, List.getElem_cons_succ]
                  refine wpAnyH_take (i := 18) (v := ?_) rfl (by kernel_rfl) (by kernel_rfl) (by kernel_rfl) (fun _ _ _ h => h) (Or.inl ⟨by rfl, ?_⟩) (by assumption) ?_
                  rotate_left
                  · (intro w9 hS9; try simp only [List.getElem_toArray, List.getElem_cons_zero, List.getElem_cons_succ]
                     go_simp <;> rfl)
                  try simp only [Act.put, List.setIfInBounds_toArray, List.set_cons_zero, List.set_cons_succ, List.getElem_toArray, List.getElem_cons_zero, List.getElem_cons_succ]
                  refine wpAnyH_ready (rs := [19]) (by kernel_rfl) (by simp) ?_
                  refine AllReadyH.cons rfl (fun K hK => ?_) (AllReadyH.nil)
                  have HS1 := hide (HS0.out.set_ (r' := ⟨(N : Int), t1, m2, IntKind.i64.wrap (t3 + b3), IntKind.i64.wrap (t4 + b4), IntKind.i64.wrap (t5 + b5), IntKind.i64.wrap (t6 + b6), IntKind.i64.wrap (t7 + b7), s8, e9⟩) hR1 7 (.int .i64 (IntKind.i64.wrap (t7 + b7))) rfl)
                  try simp only [List.getElem_toArray, List.getElem_cons_zero, List.getElem_cons_succ]
                  try go_simp
                  refine hK.out _ _ ⟨HX.out _ HS1.out.only 6 (by omega), HX.out _ HS1.out.only 7 (by omega)⟩ (fun hHeld => ?_)
                  clear hK K
                  try simp only [Act.put, List.setIfInBounds_toArray, List.set_cons_zero, List.set_cons_succ, List.getElem_toArray, List.getElem_cons_zero, List.getElem_cons_succ]
                  refine wpAnyH_done (by kernel_rfl) ?_ _
                  clear hHeld
                  go_wp2_with fail
                  go_roundw
                  case rel => exact ⟨k + 1, by omega, by go_num, hide (by
                    rw [HFin.out]
                    have h := HS1.out
                    simp only [IntWalk.i64_left] at h ⊢
                    exact h)⟩
                  case measure => simp [intOf]; omega
    · have hke : k = N := by omega
      subst hke
      have hd : decide ((k : Int) < (k : Int)) = false := by simp
      have HF := hide (show RowAtR w1 W0 wr (w4.heap.size + 1) ⟨z0, z1, z2, z3, z4, z5, z6, z7, z8, z9⟩ from by rw [HTT.out]; exact hra.out)
      have HZ := hide (HBT.out.only HF.out.only (by omega))
      have HTr := hide (HT1.out.below HF.out.bel)
      clear hra HTT
      obtain ⟨y0, y1, y2, y3, y4, y5, y6, y7, y8, y9⟩ := HF.out.blk.tenR
      obtain ⟨x0, x1, x2, x3, x4, x5, x6, x7, x8, x9⟩ := HZ.out.tenR
      go_wp2_with fail
      refine (same38_c ⟨z0, z1, z2, z3, z4, z5, z6, z7, z8, z9⟩ _).mono ?_
      rintro e w8 ⟨rfl, hb8⟩
      have HB8 := hide (HF.out.bel.trans (hb8.mono HF.out.bel.size))
      have HT8 := hide (HTr.out.below hb8)
      clear hb8
      go_wp2_with fail
      refine (lives38_c _ HT8.out).mono ?_
      rintro e w9 ⟨rfl, hb9⟩
      have HB9 := hide (HB1.out.trans ((HB8.out.trans (hb9.mono HB8.out.size)).mono HB1.out.size))
      clear hb9
      go_wp2_with fail
      go_ret
      exact ⟨rfl, HB9.out⟩
end Go.Proofs.YthnjebpbokmemaaDoor
