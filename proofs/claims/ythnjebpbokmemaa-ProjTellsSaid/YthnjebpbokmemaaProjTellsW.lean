/- The walk of ProjTells. Conditions: those of each theorem. -/
import Derived.Test.YthnjebpbokmemaaTellsP
import Derived.Test.YthnjebpbokmemaaIds31b
import Derived.Test.YthnjebpbokmemaaSameQ
namespace Go.Proofs.Ythnjebpbokmemaa
open Go.RowKit
set_option linter.unusedVariables false

theorem rd_sub {w : World} {b o : Nat} {l : List Ev} (h : Rd w NoBlk (some ⟨b, o, none⟩) (flat encEv l)) (at_ m : Nat) (hm : at_ + m ≤ l.length) (hp : 0 < m) : Rd w NoBlk (some ⟨b, o + at_ * 12, none⟩) (flat encEv ((l.drop at_).take m)) := by
  have hl := flat_len encEv 12 encEv_len l
  rcases h with h | ⟨b', o', hA, hmm, hb, hc⟩
  · rw [h] at hl; simp at hl; omega
  · injection hA with hA
    injection hA with h1 h2 _
    subst h1; subst h2
    have hl2 := flat_len encEv 12 encEv_len ((l.drop at_).take m)
    have hlm : ((l.drop at_).take m).length = m := by rw [List.length_take, List.length_drop]; omega
    refine Or.inr ⟨b, o + at_ * 12, rfl, hmm, hb, fun j hj => ?_⟩
    rw [hl2, hlm] at hj
    have hlt : at_ * 12 + j < (flat encEv l).length := by rw [hl]; omega
    have h3 := hc (at_ * 12 + j) hlt
    rw [← Nat.add_assoc] at h3
    rw [h3]
    have hq : j = j / 12 * 12 + j % 12 := by omega
    have hd : j / 12 < m := by omega
    have e1 : l[at_ + j / 12]? = some (evAt l (at_ + j / 12)) := evAt_some (by omega)
    have e2 : ((l.drop at_).take m)[j / 12]? = some (evAt l (at_ + j / 12)) := by rw [List.getElem?_take, if_pos hd, List.getElem?_drop]; exact e1
    have f1 := flat_at encEv 12 encEv_len l (at_ + j / 12) (j % 12) _ e1 (by omega)
    have f2 := flat_at encEv 12 encEv_len ((l.drop at_).take m) (j / 12) (j % 12) _ e2 (by omega)
    have g1 : (at_ + j / 12) * 12 + j % 12 = at_ * 12 + j := by omega
    rw [g1] at f1
    rw [← hq] at f2
    rw [f1, f2]
set_option maxRecDepth 100000 in
set_option maxHeartbeats 8000000 in
theorem ProjTells_walk (hOf : RefOfC) (A : Option Addr) (c : Nat) (l : List Ev) (id : Int) (w : World) (hr : Rd w NoBlk A (flat encEv l)) (hn : l.length ≤ maxLen) :
    Calls Try.prog 4 #[.slice A l.length c, .int .i64 id] w fun e w' => e = .returned (.bool true) ∧ Below w.heap.size w w' := by
  have hfew := Few_c NoBlk A c l 16 w hr hn (by omega) (fun k h => h.elim)
  have HFw := hide hfew
  have HOf := hide hOf
  clear hfew hr hn hOf
  go_enter Try.func4, Try.ntmps4
  go_wp2_with fail
  refine HFw.out.mono ?_
  rintro e w1 ⟨A1, c1, rfl, rd1, hb1, hcap⟩
  have htx := few_texts l 16
  have hle := few_le l 16
  have hid := fewL_idem l 16
  obtain ⟨F, hF⟩ : ∃ F, F = fewL l 16 := ⟨_, rfl⟩
  rw [← hF] at rd1 hcap htx hle hid ⊢
  have hfew2 := Few_c NoBlk A1 c1 F 16 w1 rd1 (by unfold maxLen; omega) (by omega) (fun k h => h.elim)
  rw [hid] at hfew2
  have hsmall := lifeO_small (id := id) htx (by omega)
  have HSm := hide hsmall
  have HF2 := hide hfew2
  have Rd1 := hide rd1
  have HTx := hide htx
  obtain ⟨n, hnl⟩ : ∃ n, n = F.length := ⟨_, rfl⟩
  rw [← hnl] at hcap hle HF2 ⊢
  have Hn := hide hnl
  have HB1 := hide hb1
  clear hnl hF rd1 htx hb1 HFw hid hfew2 hsmall
  go_wp2_with fail
  refine HF2.out.mono ?_
  rintro e w2 ⟨A2, c2, rfl, rd2, hb2, hcap2⟩
  rw [← Hn.out] at hcap2 ⊢
  have HB2 := hide hb2
  have hof := Of_c NoBlk A2 c2 F id w2 rd2 (by rw [← Hn.out]; omega) HTx.out (by rw [← Hn.out]; exact hcap2) (fun k h => h.elim)
  have Rd12 := hide (Rd1.out.below hb2)
  rw [← Hn.out] at hof
  have HO := hide hof
  clear hof rd2 hb2 HF2
  go_wp2_with fail
  refine HO.out.mono ?_
  intro e w3 hret
  obtain ⟨hb3, A3, c3, B3, d3, rfl, ri3, rs3⟩ := ret_one hret
  obtain ⟨o, ho⟩ : ∃ o, o = lifeGo id 0 F := ⟨_, rfl⟩
  have h31 := fun (w' : World) (hr : Rd w' NoBlk A1 (flat encEv F)) => HOf.out A1 c1 F id w' hr (by rw [← Hn.out]; omega) HTx.out
  rw [← ho] at ri3 rs3 HSm h31 ⊢
  obtain ⟨f, hf⟩ : ∃ f, f = lifeO o := ⟨_, rfl⟩
  obtain ⟨i, hi⟩ : ∃ i, i = whoL id o := ⟨_, rfl⟩
  obtain ⟨ok, hok⟩ : ∃ ok, ok = o.isSome := ⟨_, rfl⟩
  rw [← hf] at ri3 rs3 HSm
  rw [← hf, ← hi, ← hok]
  have hL3 : Below w3.heap.size w3 (w3.alloc (.cells #[.int .i64 i, .int .i64 f.script, .int .i64 f.start, .slice A3 f.ins.length c3, .slice B3 f.steps.length d3, .string f.read, .string f.taken, .bool f.eof, .int .i64 f.status] 32)) := below_alloc _ _
  obtain ⟨W3, hW3⟩ : ∃ W3, W3 = w3.alloc (.cells #[.int .i64 i, .int .i64 f.script, .int .i64 f.start, .slice A3 f.ins.length c3, .slice B3 f.steps.length d3, .string f.read, .string f.taken, .bool f.eof, .int .i64 f.status] 32) := ⟨_, rfl⟩
  rw [← hW3] at hL3
  have b3 : Blk W3 w3.heap.size 32 #[.int .i64 i, .int .i64 f.script, .int .i64 f.start, .slice A3 f.ins.length c3, .slice B3 f.steps.length d3, .string f.read, .string f.taken, .bool f.eof, .int .i64 f.status] := by rw [hW3]; exact Blk.new _ _ _
  have hc3 := h31 W3 ((Rd12.out.below hb3).below hL3)
  rw [← Hn.out] at hc3
  have HC3 := hide hc3
  have HW3 := hide hW3
  have HB3 := hide hb3
  have HL3 := hide hL3
  have HBk3 := hide b3
  have RI3 := hide (ri3.below hL3)
  have RS3 := hide (rs3.below hL3)
  have Rd13 := hide ((Rd12.out.below hb3).below hL3)
  have Ho := hide ho
  have Hfi := hide (And.intro hf (And.intro hi hok))
  clear hret hc3 h31 ho hf hi hok ri3 rs3 hb3 hL3 hW3 b3 HO HOf
  go_wp2_with fail
  rw [← HW3.out]
  refine HC3.out.mono ?_
  intro e w4 hret
  obtain ⟨hb4, A4, c4, B4, d4, C4, n4, c5, rfl, ri4, rs4⟩ := ret_one31 hret
  rw [← Hfi.out.1] at ri4 rs4 ⊢
  rw [← Hfi.out.2.1, ← Hfi.out.2.2]
  obtain ⟨W4, hW4⟩ : ∃ W4, W4 = w4.alloc (.cells #[.int .i64 i, .int .i64 f.script, .int .i64 f.start, .slice A4 f.ins.length c4, .slice C4 n4 c5, .slice B4 f.steps.length d4, .string f.read, .string f.taken, .bool f.eof, .int .i64 f.status] 41) := ⟨_, rfl⟩
  have hL4 : Below w4.heap.size w4 W4 := by rw [hW4]; exact below_alloc _ _
  have b4 : Blk W4 w4.heap.size 41 #[.int .i64 i, .int .i64 f.script, .int .i64 f.start, .slice A4 f.ins.length c4, .slice C4 n4 c5, .slice B4 f.steps.length d4, .string f.read, .string f.taken, .bool f.eof, .int .i64 f.status] := by rw [hW4]; exact Blk.new _ _ _
  have b3 := (HBk3.out.below hb4).below hL4
  have hsame := same31_c i f.script f.start f.status f.read f.taken f.eof f.ins f.steps A3 A4 B3 B4 C4 c3 c4 d3 d4 n4 c5 W4 ((RI3.out.below hb4).below hL4) (ri4.below hL4) ((RS3.out.below hb4).below hL4) (rs4.below hL4) HSm.out.1 HSm.out.2
  have rd4 := (Rd13.out.below hb4).below hL4
  have tot4 := hide (below_trans (below_trans HB1.out HB2.out) (below_trans (below_trans HB3.out HL3.out) (below_trans hb4 hL4)))
  have hne : ¬ w3.heap.size = w4.heap.size := by have := (HBk3.out.below hb4).lt; omega
  have hne2 : ¬ w4.heap.size = w3.heap.size := by omega
  obtain ⟨⟨z0, z1, z2, z3, z4, z5, z6, z7, z8⟩, -⟩ := b3.nine
  obtain ⟨⟨y0, y1, y2, y3, y4, y5, y6, y7, y8, y9⟩, -⟩ := b4.ten
  rw [hW4] at z0 z1 z2 z3 z4 z5 z6 z7 z8 y0 y1 y2 y3 y4 y5 y6 y7 y8 y9
  have HSame := hide hsame
  have Rd4 := hide rd4
  have HW4 := hide hW4
  have hidn := ids_uniq F
  have hIds := hide (fun (w' : World) (hb : Below W4.heap.size W4 w') => Ids_c NoBlk A1 c1 F w' (Rd4.out.below hb) (by rw [← Hn.out]; omega) (fun k h => h.elim))
  have hRefs := hide (fun (w' : World) (hb : Below W4.heap.size W4 w') => refIds_c A1 c1 F w' (Rd4.out.below hb) (by rw [← Hn.out]; omega))
  have hRnds := hide (fun (w' : World) (hb : Below W4.heap.size W4 w') => Rounds_c A1 c1 F w' (Rd4.out.below hb) (by rw [← Hn.out]; omega))
  have hClks := hide (fun (w' : World) (hb : Below W4.heap.size W4 w') => Clocks_c NoBlk A1 c1 F w' (Rd4.out.below hb) (by rw [← Hn.out]; omega) (fun k h => h.elim))
  have hIle := ids_le F
  rw [show Lib.compact ((openedL F).mergeSort fun x y => decide (x ≤ y)) = idsL F from hidn.symm] at hIds
  rw [← Hn.out] at hIds hRefs hRnds hClks hIle
  have hokk : (ok != ok) = false := by cases ok <;> rfl
  have hid2 := hide hIle
  clear hret hsame rd4 hW4 hL4 b4 b3 ri4 rs4 hb4 hidn hIle HC3 HBk3 RI3 RS3 Rd13 Rd12 HB3 HL3 HW3
  go_upto_block 0 with (first
    | (go_at_call 14; rw [← HW4.out]; refine HSame.out.mono ?_; rintro e w5 ⟨rfl, hb5⟩; have HB5 := hide hb5; clear hb5)
    | (go_at_call 16; refine (hIds.out _ HB5.out).mono ?_; rintro e w6 ⟨hb6, A6, c6, rfl, ri6⟩; have RI6 := hide ri6; have HB6 := hide (HB5.out.trans (hb6.mono HB5.out.size)); clear hb6 ri6)
    | (go_at_call 17; refine (hRefs.out _ HB6.out).mono ?_; rintro e w7 ⟨hb7, A7, c7, rfl, ri7⟩; have RI67 := hide (RI6.out.below hb7); have RI7 := hide ri7; have HB7 := hide (HB6.out.trans (hb7.mono HB6.out.size)); clear hb7 ri7)
    | (go_at_call 15; refine (same04_c NoBlk NoBlk A6 A7 c6 c7 (idsL F) _ RI67.out RI7.out (by have := hid2.out; omega)).mono ?_; rintro e w8 ⟨rfl, hb8⟩; have HB8 := hide (HB7.out.trans (hb8.mono HB7.out.size)); clear hb8)
    | (go_at_call 18; refine (hRnds.out _ HB8.out).mono ?_; rintro e w9 ⟨hb9, A9, c9, vals, rfl, hvl, rv9, hv9⟩; have HB9 := hide (HB8.out.trans (hb9.mono HB8.out.size)); have HVL := hide hvl; have RV9 := hide rv9; have HV9 := hide hv9; clear hb9 hvl rv9 hv9)
    | (go_at_call 19; refine (hClks.out _ HB9.out).mono ?_; rintro e w10 ⟨hb10, A10, c10, rfl, rk10, hkc⟩; have HB10 := hide (HB9.out.trans (hb10.mono HB9.out.size)); have HB10' := hide hb10; have RK10 := hide rk10; clear hb10 rk10))
  obtain ⟨R, hR⟩ : ∃ R, R = (roundsL F).length := ⟨_, rfl⟩
  have hRn : R ≤ n := by rw [hR, ← clk_len, Hn.out]; exact clocks_le F
  rw [clk_len F, ← hR]
  have HR := hide hR
  have HT10 := hide (tot4.out.trans (HB10.out.mono tot4.out.size))
  have Rd10 := hide (Rd4.out.below HB10.out)
  have Hev := hide (fun k hk => ev_cells Rd10.out k hk)
  clear hR HSame hIds hRefs hRnds hClks hid2 RI6 RI67 RI7 HW4 z0 z1 z2 z3 z4 z5 z6 z7 z8 y0 y1 y2 y3 y4 y5 y6 y7 y8 y9 hkc
  go_cut [11] (fun v11 wx => ∃ s : Nat, s ≤ n ∧ v11 = .int .i64 s ∧ Hid (∀ i, i < s → (evAt F i).k ≠ 1) ∧ Hid (s < n → (evAt F s).k = 1) ∧ Hid (Below w10.heap.size w10 wx))
  case first =>
    go_wp2_with fail
    go_loopw [11] (fun v wr => ∃ s : Nat, s ≤ n ∧ v = .int .i64 s ∧ Hid (∀ i, i < s → (evAt F i).k ≠ 1) ∧ Hid (Below w10.heap.size w10 wr)) (fun v _ => n - (intOf v).toNat)
    case atStart => exact ⟨0, Nat.zero_le _, rfl, hide (fun i hi => absurd hi (by omega)), hide (Below.refl _ _)⟩
    case round =>
      obtain ⟨s, hs, rfl, h1, hb⟩ := hrel
      by_cases hlt : s < n
      · obtain ⟨b, o, rfl, _, hbl, g0, _⟩ := Hev.out s (by rw [← Hn.out]; exact hlt)
        replace g0 := bkeepL hb.out hbl g0
        have k1 : (0 : Int) ≤ (s : Int) := by omega
        have k2 : (s : Int) < (n : Int) := by omega
        have k3 : decide ((s : Int) < (n : Int)) = true := by simpa using k2
        cases q : ((evAt F s).k != 1) with
        | true =>
          have hq := hide (show (evAt F s).k ≠ 1 by simpa using q)
          go_wp2_with fail
          go_roundw
          case rel =>
            refine ⟨s + 1, by omega, by go_num, hide (fun i hi => ?_), hb⟩
            by_cases e : i = s
            · subst e; exact hq.out
            · exact h1.out i (by omega)
          case measure => simp [intOf]; omega
        | false =>
          have hq := hide (show (evAt F s).k = 1 by simpa using q)
          go_wp2_with fail
          go_meet
          exact ⟨s, hs, rfl, h1, hide (fun _ => hq.out), hb⟩
      · have hd : decide ((s : Int) < (n : Int)) = false := by simp; omega
        have hd2 : decide (s < n) = false := by simp; omega
        go_wp2_with fail
        go_meet
        exact ⟨s, hs, rfl, h1, hide (fun h => absurd h hlt), hb⟩
  case rest =>
    obtain ⟨s, hs, rfl, h1, h2, hbs⟩ := hcut
    have hP := hide (fun i hi => pieceP (l := F) (s := s) (by rw [← Hn.out]; exact hs) h1.out (by rw [← Hn.out]; exact h2.out) (i := i) hi)
    have hE := hide (off_end (l := F) (s := s) (by rw [← Hn.out]; exact hs) h1.out (by rw [← Hn.out]; exact h2.out))
    clear h1 h2
    go_wp2_with fail
    go_loopw [11, 13] (fun v i wr => ∃ j a : Nat, j ≤ R ∧ i = .int .i64 j ∧ v = .int .i64 a ∧ Hid (a = offL F s j) ∧ Hid (Below w10.heap.size w10 wr)) (fun _ i _ => R - (intOf i).toNat)
    case atStart => exact ⟨0, s, Nat.zero_le _, rfl, rfl, hide (by unfold offL; simp), hbs⟩
    case round =>
      obtain ⟨j, a, hj, rfl, rfl, ha, hb⟩ := hrel
      by_cases hlt : j < R
      · have P := hP.out j (by rw [← HR.out]; exact hlt)
        have p1 := P.pos
        have p2 := P.le
        have p3 := hide P.eq
        have p4 := hide P.next
        have p5 := hide P.clk
        rw [← ha.out] at p2 p3 p4 p5
        obtain ⟨A', c', hval, rdj, hcj⟩ := HV9.out j (by rw [← HR.out]; exact hlt)
        obtain ⟨r, hr⟩ : ∃ r, r = (roundsL F).getD j [] := ⟨_, rfl⟩
        rw [← hr] at p1 p2 p3 p4 hval rdj hcj
        rw [← Hn.out] at p2
        obtain ⟨m, hm⟩ : ∃ m, m = r.length := ⟨_, rfl⟩
        rw [← hm] at p1 p2 p3 p4 hval hcj
        obtain ⟨b, o, rfl, _, hbl, g0, g1, g2, g3, _⟩ := Hev.out a (by rw [← Hn.out]; omega)
        obtain ⟨b9, o9, rfl, _, hb9, hc9⟩ := RV9.out.at_ (j := j) (by rw [HVL.out, ← HR.out]; exact hlt)
        have v1 := hc9 j (by rw [HVL.out, ← HR.out]; exact hlt)
        rw [hval] at v1
        obtain ⟨b10, o10, rfl, hb10, v2⟩ := encI_cell RK10.out j (by rw [clk_len, ← HR.out]; exact hlt)
        rw [p5.out] at v2
        obtain ⟨tk, htk⟩ : ∃ tk, tk = (evAt F a).tick := ⟨_, rfl⟩
        rw [← htk] at v2 g3
        replace g3 := bkeepL hb.out hbl g3
        replace v2 := bkeepL hb.out hb10 v2
        replace v1 := bkeep HB10'.out v1
        replace v1 := bkeep hb.out v1
        have hq1 := hide ((rdj.below HB10'.out).below hb.out)
        have hq2 := hide (show Rd wr NoBlk (some ⟨b, o + a * 12, none⟩) (flat encEv r) from by
          have h := rd_sub (Rd10.out.below hb.out) a m (by rw [← Hn.out]; exact p2) p1
          rw [p3.out] at h
          exact h)
        have hs2 := hide (fun (nq : Nat) => sameEv_q NoBlk NoBlk A' (some ⟨b, o + a * 12, none⟩) c' (c1 - a) r (wr.drewN nq) (hq1.out.drewN nq) (hq2.out.drewN nq) (by omega))
        rw [← hm] at hs2
        have k1 : (0 : Int) ≤ (j : Int) := by omega
        have k2 : (j : Int) < (R : Int) := by omega
        have k3 : (0 : Int) ≤ (a : Int) := by omega
        have k4 : (a : Int) < (n : Int) := by omega
        have k5 : (a : Int) ≤ (a : Int) + (m : Int) := by omega
        have k6 : (a : Int) + (m : Int) ≤ (c1 : Int) := by omega
        have k7 : ((m : Int) == 0) = false := by simp; omega
        have k8 : decide ((n : Int) < (a : Int) + (m : Int)) = false := by simp; omega
        have k9 : decide ((R : Int) ≤ (j : Int)) = false := by simp; omega
        have k10 : (tk != tk) = false := by simp
        have k11 : ¬ c1 = a := by omega
        have k12 : a + m - a = m := by omega
        have k14 : ((a : Int) + (m : Int)).toNat = a + m := by omega
        have k13 : decide (R ≤ j) = false := by simp; omega
        have Hcj := hide hcj
        have Hm := hide hm
        have hwm : IntKind.i64.wrap ((a : Int) + (m : Int)) = (a : Int) + (m : Int) := IntWalk.i64_in _ (by omega)
        clear hval rdj hr hcj htk hc9 P hm
        go_wp2_with fail
        go_quiet (first
          | (go_at_call 20; exact Calls.quiet_of (hs2.out _)))
        clear hwm k14 k12
        go_wp2_with fail
        go_roundw
        case rel => exact ⟨j + 1, a + m, by omega, by go_num, by go_num, hide (by rw [p4.out]), hide (below_drewN' hb.out _)⟩
        case measure => simp [intOf]; omega
      · have hje : j = R := by omega
        subst hje
        have hae : a = n := by rw [ha.out, HR.out, hE.out, Hn.out]
        subst hae
        have hd : decide ((j : Int) < (j : Int)) = false := by simp
        have hd2 : decide (j < j) = false := by simp
        go_wp2_with fail
        go_loopw [12, 14] (fun v i wr => ∃ k q : Nat, k ≤ a ∧ i = .int .i64 k ∧ v = .int .i64 q ∧ Hid (q = (clocksL (F.take k)).length) ∧ q ≤ k ∧ Hid (Below w10.heap.size w10 wr)) (fun _ i _ => a - (intOf i).toNat)
        case atStart => exact ⟨0, 0, Nat.zero_le _, rfl, rfl, hide rfl, Nat.le_refl _, hb⟩
        case round =>
          obtain ⟨k, q, hk, rfl, rfl, hq, hqk, hb3⟩ := hrel
          by_cases hlt3 : k < a
          · obtain ⟨b, o, rfl, _, hbl, g0, _⟩ := Hev.out k (by rw [← Hn.out]; exact hlt3)
            replace g0 := bkeepL hb3.out hbl g0
            have hcs := hide (cnt_succ F k (by rw [← Hn.out]; exact hlt3))
            cases e1 : ((evAt F k).k == 1) with
            | true =>
              have hq1 := hide (show (evAt F k).k = 1 by simpa using e1)
              go_wp2_with fail
              go_roundw
              case rel => exact ⟨k + 1, q + 1, by omega, by go_num, by go_num, hide (by rw [hcs.out, if_pos hq1.out, hq.out]), by omega, hb3⟩
              case measure => simp [intOf]; omega
            | false =>
              have hq1 := hide (show ¬ (evAt F k).k = 1 by simpa using e1)
              go_wp2_with fail
              go_roundw
              case rel => exact ⟨k + 1, q, by omega, by go_num, rfl, hide (by rw [hcs.out, if_neg hq1.out, hq.out]; rfl), by omega, hb3⟩
              case measure => simp [intOf]; omega
          · have hke : k = a := by omega
            subst hke
            have hd3 : decide ((k : Int) < (k : Int)) = false := by simp
            have hd4 : decide (k < k) = false := by simp
            have hqR : q = j := by rw [hq.out, List.take_of_length_le (by rw [← Hn.out]; omega), clk_len, HR.out]
            subst hqR
            have hd5 : ((k : Int) == (k : Int)) = true := by simp
            have hd6 : ((q : Int) == (q : Int)) = true := by simp
            go_wp2_with (first
              | (go_at_call 12; refine (lives31_c _).mono ?_; rintro e w13 ⟨rfl, hb13⟩; have HB13 := hide hb13; clear hb13))
            go_ret
            exact ⟨rfl, HT10.out.trans ((hb3.out.trans (HB13.out.mono hb3.out.size)).mono HT10.out.size)⟩
end Go.Proofs.Ythnjebpbokmemaa
