/- The walk of GraceTells. Conditions: those of each theorem. -/
import Derived.Test.YthnjebpbokmemaaGraceE
import Derived.Test.YthnjebpbokmemaaOpenEv2
namespace Go.Proofs.Ythnjebpbokmemaa
open Go.RowKit
set_option linter.unusedVariables false

theorem late_le (s : SetM) (l : List Ev) (each : Int) : (lateS s l each).length ≤ l.length := by
  unfold lateS
  split
  · refine Nat.le_trans (late_len _ _ _) (Nat.le_trans (ids_le _) ?_)
    rw [List.length_take]
    omega
  · exact Nat.zero_le _
theorem begin_le {l : List Ev} (h : ∀ x ∈ l, x.tick ≤ 9223372036854775807) : beginT l ≤ 9223372036854775807 := by
  unfold beginT
  split
  · rcases idxK_or 7 l with ⟨hi, _⟩ | ⟨k, hk, hi, _⟩
    · omega
    · rw [hi, Int.toNat_natCast]
      have e : evAt l k = l[k] := by simp [evAt, List.getD, hk]
      rw [e]
      exact h _ (List.getElem_mem hk)
  · omega
theorem few_ticks {l : List Ev} (h : ∀ x ∈ l, EvOk x) (m : Nat) : ∀ x ∈ fewL l m, x.tick ≤ 9223372036854775807 := by
  intro x hx
  unfold fewL at hx
  rw [List.mem_map] at hx
  obtain ⟨y, hy, rfl⟩ := hx
  exact (h y (List.mem_of_mem_take hy)).tick.2
set_option maxRecDepth 100000 in
set_option maxHeartbeats 8000000 in
theorem GraceTells_walk (s : SetM) (A : Option Addr) (c : Nat) (l : List Ev) (each : Int) (w : World) (hr : Rd w NoBlk A (flat encEv l)) (hn : l.length ≤ maxLen) (hok : ∀ x ∈ l, EvOk x) (he : each ≤ 9223372036854775807) :
    Calls Try.prog 5 #[.agg (setV s), .slice A l.length c, .int .i64 each] w fun e w' => e = .returned (.bool true) ∧ Below w.heap.size w w' := by
  obtain ⟨W, hW⟩ : ∃ W, W = w.alloc (.cells (setV s) 54) := ⟨_, rfl⟩
  have hL : Below w.heap.size w W := by rw [hW]; exact below_alloc _ _
  have hb : Blk W w.heap.size 54 (setV s) := by rw [hW]; exact Blk.new _ _ _
  have hfew := Few_c NoBlk A c l 18 W (hr.below hL) hn (by omega) (fun k h => h.elim)
  have HFw := hide hfew
  have HW := hide hW
  have HL := hide hL
  have HB := hide hb
  have ht := begin_le (few_ticks hok 18)
  have hle := few_le l 18
  have htx := few_texts l 18
  have hid := fewL_idem l 18
  clear hfew hW hL hb hr hn hok
  go_enter Try.func5, Try.ntmps5
  go_wp2_with fail
  change Calls _ _ _ (w.alloc (.cells (setV s) 54)) _
  rw [← HW.out]
  refine HFw.out.mono ?_
  rintro e w1 ⟨A1, c1, rfl, rd1, hb1, hcap⟩
  obtain ⟨F, hF⟩ : ∃ F, F = fewL l 18 := ⟨_, rfl⟩
  rw [← hF] at rd1 hcap hle hid ht htx ⊢
  have HF2 := hide (fun (w' : World) (hb : Below w1.heap.size w1 w') => show Calls Try.prog 8 #[.slice A1 F.length c1, .int .i64 (18 : Nat)] w' (RetEvs NoBlk F w') from by
    have h := Few_c NoBlk A1 c1 F 18 w' (rd1.below hb) (by unfold maxLen; omega) (by omega) (fun k h => h.elim)
    rw [hid] at h
    exact h)
  have HPb := hide (fun (A' : Option Addr) (c' : Nat) (w' : World) (hr : Rd w' NoBlk A' (flat encEv F)) => Bound_c NoBlk s A' c' F each w' hr (by omega) ht he)
  have HPl := hide (fun (A' : Option Addr) (c' : Nat) (w' : World) (hr : Rd w' NoBlk A' (flat encEv F)) (hc : F.length ≤ c') => late_c s A' c' F each w' hr (by omega) htx hc ht he)
  have HPs := hide (fun (A' : Option Addr) (c' : Nat) (w' : World) (hr : Rd w' NoBlk A' (flat encEv F)) => stops_c s A' c' F each w' hr (by omega) ht he)
  have HRb := hide (fun (w' : World) (hb : Below w1.heap.size w1 w') => refBound_c NoBlk s A1 c1 F each w' (rd1.below hb) (by omega) ht he)
  have HRl := hide (fun (w' : World) (hb : Below w1.heap.size w1 w') => refLate_c s A1 c1 F each w' (rd1.below hb) (by omega) htx hcap ht he)
  have HRs := hide (fun (w' : World) (hb : Below w1.heap.size w1 w') => refStops_c s A1 c1 F each w' (rd1.below hb) (by omega) ht he)
  have HRg := hide (fun (w' : World) (hb : Below w1.heap.size w1 w') => Begin_c NoBlk A1 c1 F w' (rd1.below hb) (by unfold maxLen; omega))
  have HRf := hide (fun (w' : World) (hb : Below w1.heap.size w1 w') => First_c NoBlk A1 c1 F 7 w' (rd1.below hb) (by unfold maxLen; omega))
  have HE := hide (fun (w' : World) (hb : Below w1.heap.size w1 w') (k : Nat) (hk : k < F.length) => ev_cells (rd1.below hb) k hk)
  have hll := late_le s F each
  obtain ⟨LL, hLL⟩ : ∃ LL, LL = lateS s F each := ⟨_, rfl⟩
  rw [← hLL] at HPl HRl hll
  obtain ⟨N, hN⟩ : ∃ N, N = LL.length := ⟨_, rfl⟩
  have HS4 := hide (fun (A2 A3 : Option Addr) (c2 c3 : Nat) (w' : World) (h2 : Rd w' NoBlk A2 (flat encI LL)) (h3 : Rd w' NoBlk A3 (flat encI LL)) => same04_c NoBlk NoBlk A2 A3 c2 c3 LL w' h2 h3 (by omega))
  rw [← hN] at HPl HRl HS4
  obtain ⟨bt, hbt⟩ : ∃ bt, bt = boundT s F each := ⟨_, rfl⟩
  obtain ⟨bb, hbb⟩ : ∃ bb, bb = boundB s F each := ⟨_, rfl⟩
  obtain ⟨sb, hsb⟩ : ∃ sb, sb = stopsS s F each := ⟨_, rfl⟩
  rw [← hbt, ← hbb] at HPb HRb
  rw [← hsb] at HPs HRs
  have Hor := hide (idxK_or 7 F)
  have Hbe := hide (show beginT F = if 0 ≤ idxK 7 F then (evAt F (idxK 7 F).toNat).tick else 0 from rfl)
  obtain ⟨ix, hix⟩ : ∃ ix, ix = idxK 7 F := ⟨_, rfl⟩
  obtain ⟨be, hbe⟩ : ∃ be, be = beginT F := ⟨_, rfl⟩
  rw [← hix] at HRg HRf Hor Hbe
  rw [← hbe] at HRg Hbe
  obtain ⟨n, hnl⟩ : ∃ n, n = F.length := ⟨_, rfl⟩
  rw [← hnl] at hcap hle HF2 HPb HPl HPs HRb HRl HRs HRg HRf HE Hor ⊢
  have Hn := hide hnl
  have HB1 := hide (HL.out.trans (hb1.mono HL.out.size))
  obtain ⟨y0, y1, y2, y3, y4, y5⟩ := (HB.out.below hb1).six
  have r1 : (bt != bt) = false := by simp
  have r2 : (bb != bb) = false := by simp
  have r3 : (sb == sb) = true := by simp
  clear hnl hF rd1 hb1 HFw hid hLL hN hbt hbb hsb hix hbe ht htx HB
  have HC := hide (below_drew w1)
  go_upto_region 2 with fail
  go_cut [7, 8] from 16 to 23 (fun b is wx => b = .int .i64 bt ∧ is = .bool bb ∧ Hid (Below w1.heap.size w1 wx))
  case first =>
    go_region_held3 (fun w' => w'.cell? ⟨w.heap.size, 0, none⟩ = some (.int .i64 s.live) ∧ w'.cell? ⟨w.heap.size, 1, none⟩ = some (.int .i64 s.ring) ∧ w'.cell? ⟨w.heap.size, 2, none⟩ = some (.int .i64 s.win) ∧ w'.cell? ⟨w.heap.size, 3, none⟩ = some (.int .i64 s.out) ∧ w'.cell? ⟨w.heap.size, 4, none⟩ = some (.int .i64 s.quantum) ∧ w'.cell? ⟨w.heap.size, 5, none⟩ = some (.int .i64 s.visits)) (go_keep)
      (first
        | (go_at_call 8
           refine (HF2.out _ HC.out).mono ?_
           rintro e w2 ⟨A2, c2, rfl, rd2, hb2, hcap2⟩
           rw [← Hn.out]
           have Rd2 := hide rd2
           have HC2 := hide (HC.out.trans (hb2.mono HC.out.size))
           have v0 := bkeep hb2 y0
           have v1 := bkeep hb2 y1
           have v2 := bkeep hb2 y2
           have v3 := bkeep hb2 y3
           have v4 := bkeep hb2 y4
           have v5 := bkeep hb2 y5
           clear rd2 hb2 hcap2)
        | (go_at_call 21
           refine (HPb.out A2 c2 _ Rd2.out).mono ?_
           rintro e w3 ⟨rfl, hb3⟩
           have HC3 := hide (HC2.out.trans (hb3.mono HC2.out.size))
           have x0 := bkeep hb3 v0
           have x1 := bkeep hb3 v1
           have x2 := bkeep hb3 v2
           have x3 := bkeep hb3 v3
           have x4 := bkeep hb3 v4
           have x5 := bkeep hb3 v5
           clear hb3))
    all_goals
      go_wp2_with fail
      go_meet
      exact ⟨rfl, rfl, HC3⟩
  case rest =>
    obtain ⟨rfl, rfl, HB2⟩ := hcut
    have v0 := bkeep HB2.out y0
    have v1 := bkeep HB2.out y1
    have v2 := bkeep HB2.out y2
    have v3 := bkeep HB2.out y3
    have v4 := bkeep HB2.out y4
    have v5 := bkeep HB2.out y5
    clear y0 y1 y2 y3 y4 y5 HC
    go_wp2_with fail
    refine (HRb.out _ HB2.out).mono ?_
    rintro e w3 ⟨rfl, hb3⟩
    have HB3 := hide (HB2.out.trans (hb3.mono HB2.out.size))
    have y0 := bkeep hb3 v0
    have y1 := bkeep hb3 v1
    have y2 := bkeep hb3 v2
    have y3 := bkeep hb3 v3
    have y4 := bkeep hb3 v4
    have y5 := bkeep hb3 v5
    clear hb3 v0 v1 v2 v3 v4 v5
    go_wp2_with fail
    refine (HRg.out _ HB3.out).mono ?_
    rintro e w4 ⟨rfl, hb4⟩
    have HB4 := hide (HB3.out.trans (hb4.mono HB3.out.size))
    have v0 := bkeep hb4 y0
    have v1 := bkeep hb4 y1
    have v2 := bkeep hb4 y2
    have v3 := bkeep hb4 y3
    have v4 := bkeep hb4 y4
    have v5 := bkeep hb4 y5
    clear hb4 y0 y1 y2 y3 y4 y5
    go_wp2_with fail
    refine (HRf.out _ HB4.out).mono ?_
    rintro e w5 ⟨rfl, hb5⟩
    have HB5 := hide (HB4.out.trans (hb5.mono HB4.out.size))
    have y0 := bkeep hb5 v0
    have y1 := bkeep hb5 v1
    have y2 := bkeep hb5 v2
    have y3 := bkeep hb5 v3
    have y4 := bkeep hb5 v4
    have y5 := bkeep hb5 v5
    clear hb5 v0 v1 v2 v3 v4 v5
    go_upto_region 6 with fail
    go_cut [71] from 38 to 71 (fun v wx => v = .bool false ∧ wx = w5)
    case first =>
      rcases Hor.out with ⟨hi, _⟩ | ⟨k, hk, hi, _⟩
      · have hbe0 : be = 0 := by rw [Hbe.out, if_neg (by omega)]
        subst hi
        subst hbe0
        go_wp2_with fail
        go_meet
        exact ⟨rfl, rfl⟩
      · have hbe0 : be = (evAt F k).tick := by rw [Hbe.out, if_pos (by omega), hi, Int.toNat_natCast]
        obtain ⟨b, o, rfl, _, _, g0, g1, g2, g3, _⟩ := HE.out _ HB5.out k hk
        subst hi
        rw [← hbe0] at g3
        clear hbe0 g0 g1 g2
        have k1 : (0 : Int) ≤ (k : Int) := by omega
        have k2 : (k : Int) < (n : Int) := by omega
        have k3 : decide ((0 : Int) ≤ (k : Int)) = true := by simp
        have k4 : (be != be) = false := by simp
        go_wp2_with fail
        go_meet
        exact ⟨rfl, rfl⟩
    case rest =>
      obtain ⟨rfl, rfl⟩ := hcut
      go_wp2_with fail
      have HC := hide (below_drew' HB5.out)
      go_region_held3 (fun w' => w'.cell? ⟨w.heap.size, 0, none⟩ = some (.int .i64 s.live) ∧ w'.cell? ⟨w.heap.size, 1, none⟩ = some (.int .i64 s.ring) ∧ w'.cell? ⟨w.heap.size, 2, none⟩ = some (.int .i64 s.win) ∧ w'.cell? ⟨w.heap.size, 3, none⟩ = some (.int .i64 s.out) ∧ w'.cell? ⟨w.heap.size, 4, none⟩ = some (.int .i64 s.quantum) ∧ w'.cell? ⟨w.heap.size, 5, none⟩ = some (.int .i64 s.visits)) (go_keep)
        (first
          | (go_at_call 8
             refine (HF2.out _ HC.out).mono ?_
             rintro e wn ⟨A2, c2, rfl, rd2, hbn, hcap2⟩
             rw [← Hn.out] at hcap2 ⊢
             have Rd2 := hide rd2
             replace HC := hide (HC.out.trans (hbn.mono HC.out.size))
             replace y0 := bkeep hbn y0
             replace y1 := bkeep hbn y1
             replace y2 := bkeep hbn y2
             replace y3 := bkeep hbn y3
             replace y4 := bkeep hbn y4
             replace y5 := bkeep hbn y5
             clear rd2 hbn)
          | (go_at_call 25
             refine (HPl.out A2 c2 _ Rd2.out hcap2).mono ?_
             rintro e wn ⟨hbn, A7, c7, rfl, rd7⟩
             have Rd7 := hide rd7
             replace HC := hide (HC.out.trans (hbn.mono HC.out.size))
             replace y0 := bkeep hbn y0
             replace y1 := bkeep hbn y1
             replace y2 := bkeep hbn y2
             replace y3 := bkeep hbn y3
             replace y4 := bkeep hbn y4
             replace y5 := bkeep hbn y5
             clear rd7 hbn)
          | (go_at_call 26
             refine (HRl.out _ HC.out).mono ?_
             rintro e wn ⟨hbn, A8, c8, rfl, rd8⟩
             have Rd8 := hide rd8
             replace Rd7 := hide (Rd7.out.below hbn)
             replace HC := hide (HC.out.trans (hbn.mono HC.out.size))
             replace y0 := bkeep hbn y0
             replace y1 := bkeep hbn y1
             replace y2 := bkeep hbn y2
             replace y3 := bkeep hbn y3
             replace y4 := bkeep hbn y4
             replace y5 := bkeep hbn y5
             clear rd8 hbn)
          | (go_at_call 15
             refine (HS4.out A7 A8 c7 c8 _ Rd7.out Rd8.out).mono ?_
             rintro e wn ⟨rfl, hbn⟩
             replace HC := hide (HC.out.trans (hbn.mono HC.out.size))
             replace y0 := bkeep hbn y0
             replace y1 := bkeep hbn y1
             replace y2 := bkeep hbn y2
             replace y3 := bkeep hbn y3
             replace y4 := bkeep hbn y4
             replace y5 := bkeep hbn y5
             clear hbn)
          | (go_at_call 27
             refine (HPs.out A2 c2 _ Rd2.out).mono ?_
             rintro e wn ⟨rfl, hbn⟩
             replace HC := hide (HC.out.trans (hbn.mono HC.out.size))
             replace y0 := bkeep hbn y0
             replace y1 := bkeep hbn y1
             replace y2 := bkeep hbn y2
             replace y3 := bkeep hbn y3
             replace y4 := bkeep hbn y4
             replace y5 := bkeep hbn y5
             clear hbn)
          | (go_at_call 28
             refine (HRs.out _ HC.out).mono ?_
             rintro e wn ⟨rfl, hbn⟩
             replace HC := hide (HC.out.trans (hbn.mono HC.out.size))
             replace y0 := bkeep hbn y0
             replace y1 := bkeep hbn y1
             replace y2 := bkeep hbn y2
             replace y3 := bkeep hbn y3
             replace y4 := bkeep hbn y4
             replace y5 := bkeep hbn y5
             clear hbn)
          | (go_at_call 29
             refine (lives37_c _).mono ?_
             rintro e wn ⟨rfl, hbn⟩
             replace HC := hide (HC.out.trans (hbn.mono HC.out.size))
             replace y0 := bkeep hbn y0
             replace y1 := bkeep hbn y1
             replace y2 := bkeep hbn y2
             replace y3 := bkeep hbn y3
             replace y4 := bkeep hbn y4
             replace y5 := bkeep hbn y5
             clear hbn))
      all_goals
        go_wp2_with fail
        go_ret
        exact ⟨rfl, HB1.out.trans (HC.out.mono HB1.out.size)⟩
end Go.Proofs.Ythnjebpbokmemaa
