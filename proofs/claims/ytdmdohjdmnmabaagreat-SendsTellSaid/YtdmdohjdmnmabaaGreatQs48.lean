/- All of chapter 36, by the document. Conditions: those of each theorem. -/
import Derived.Test.YtdmdohjdmnmabaaGreatQs35
import Derived.Test.YtdmdohjdmnmabaaGreatQs42
import Derived.Test.YtdmdohjdmnmabaaGreatQs43
import Derived.Test.YtdmdohjdmnmabaaGreatQs47
namespace Go.Proofs.YtdmdohjdmnmabaaGreat
open Go.RowKit
set_option linter.unusedVariables false
set_option linter.unusedSimpArgs false

theorem flat_one36 (l : List SdM) : ∀ u ∈ flat encSd l, u.oneCell' = true := by
  intro u hu
  unfold flat at hu
  rw [List.mem_flatten] at hu
  obtain ⟨r, hr, hu⟩ := hu
  obtain ⟨a, _, rfl⟩ := List.mem_map.1 hr
  exact encSd_one a u hu
set_option maxRecDepth 100000 in
set_option maxHeartbeats 25600000 in
theorem refOf36_c (SA : Option Addr) (sc : Nat) (Ps : List PrV) (A : Option Addr) (c : Nat) (l : List Ev) (w : World) (hs : PrsRd w NoBlk SA Ps) (hsn : Ps.length ≤ maxLen) (hsz : ∀ v ∈ Ps, PrSz v) (hr : Rd w NoBlk A (flat encEv l)) (hn : l.length ≤ 900) (hx : ∀ x ∈ l, x.s.size ≤ 100) :
    Calls Tryz.prog 32 #[.slice SA Ps.length sc, .slice A l.length c] w fun e w' => (∃ v, e = .returned v ∧ w'.ownsRow w.heap.size 110 7 v (allS Ps l).length (flat encSd (allS Ps l))) ∧ Below w.heap.size w w' := by
  obtain ⟨il, hil, hlz0, hlz1, hlz2⟩ := info_parts Tryz.infoRSd
  have hsn' : Ps.length ≤ 9223372036854775807 := hsn
  have HIds := hide (fun (w' : World) (k : Below w.heap.size w w') => refIds_c A c l w' (hr.below k) (by omega))
  have HOf := hide (fun (id : Int) (w' : World) (k : Below w.heap.size w w') => refOf_c A c l id w' (hr.below k) (by omega) hx)
  have HPr := hide (fun (w' : World) (k : Below w.heap.size w w') (i : Nat) (hi : i < Ps.length) => pr_cells (hs.1.below k) i hi)
  have HGood := hide (fun (w' : World) (k : Below w.heap.size w w') (i : Nat) (hi : i < Ps.length) => refGood_c (prAt Ps i).s (prAt Ps i).d (prAt Ps i).j (prAt Ps i).PA (prAt Ps i).pc (prAt Ps i).L w' ⟨((hs.2 _ (prAt_mem hi)).1).below k, fun v hv => ((hs.2 _ (prAt_mem hi)).2 v hv).below k⟩ (hsz _ (prAt_mem hi)).1 (hsz _ (prAt_mem hi)).2.1 (hsz _ (prAt_mem hi)).2.2)
  have HOne := hide (fun (id : Int) (w' : World) (k : Below w.heap.size w w') (i : Nat) (hi : i < Ps.length) => refsone_c (prAt Ps i).s (prAt Ps i).d (prAt Ps i).j (prAt Ps i).PA (prAt Ps i).pc (prAt Ps i).L A c l id w' ⟨((hs.2 _ (prAt_mem hi)).1).below k, fun v hv => ((hs.2 _ (prAt_mem hi)).2 v hv).below k⟩ (hsz _ (prAt_mem hi)).1 (hsz _ (prAt_mem hi)).2.1 (hsz _ (prAt_mem hi)).2.2 (hr.below k) (by omega) hx)
  have hile := ids_le l
  have hpl := per_len Ps l (sendsP l) (l.length + 1) (fun v id => Nat.le_trans (sends_le (prM v) id l) (by omega))
  have HLe := hide (fun v id => show (sendsP l v id).length ≤ l.length + 1 from Nat.le_trans (sends_le (prM v) id l) (by omega))
  have HPm := hide (show allS Ps l = perM Ps l (sendsP l) (idsL l) from rfl)
  obtain ⟨N, hN⟩ : ∃ N, N = (idsL l).length := ⟨_, rfl⟩
  obtain ⟨n, hnl⟩ : ∃ n, n = l.length := ⟨_, rfl⟩
  obtain ⟨np, hnp⟩ : ∃ np, np = Ps.length := ⟨_, rfl⟩
  have HN := hide hN
  have Hnl := hide hnl
  have Hnp := hide hnp
  obtain ⟨TT, hT⟩ : ∃ TT, TT = allS Ps l := ⟨_, rfl⟩
  rw [← hT] at HPm ⊢
  rw [← hN] at HIds hile
  rw [← hnl] at HIds HOf HOne hn hile hpl HLe ⊢
  rw [← hnp] at HPr HGood HOne hsn' ⊢
  have HPL := hide hpl
  clear hs hsn hsz hr hx hN hnl hnp hpl hT
  obtain ⟨W2, hW2⟩ : ∃ W2, W2 = w.alloc (.cells #[] 110) := ⟨_, rfl⟩
  have HB2 := hide (show Below w.heap.size w W2 by rw [hW2]; exact below_alloc _ _)
  have HO2 := hide (show W2.ownsRow w.heap.size 110 7 (.slice (some ⟨w.heap.size, 0, none⟩) 0 0) 0 (flat encSd []) by rw [hW2]; simpa [flat] using own_empty' (w := w) (base := w.heap.size) (g := w.heap.size) (e := 110) (size := 7) (by omega) (by omega))
  have HWW := hide hW2
  clear hW2
  go_enter Tryz.func32, Tryz.ntmps32
  go_wp2_with fail
  change Calls _ _ _ (w.alloc (.cells #[] 110)) _
  rw [← HWW.out]
  refine (HIds.out _ HB2.out).mono ?_
  rintro e w1 ⟨hb1, A1, c1, rfl, hr1⟩
  have HB1 := hide (HB2.out.trans (hb1.mono HB2.out.size))
  have HEm := hide (show Blk w1 w.heap.size 110 #[] from (show Blk W2 w.heap.size 110 #[] by rw [HWW.out]; exact Blk.new _ _ _).below hb1)
  obtain ⟨M1, hM1⟩ : ∃ M1 : Nat → Prop, M1 = (fun b => b = w.heap.size ∨ w1.heap.size ≤ b) := ⟨_, rfl⟩
  have HR1 := hide (show Rd w1 M1 A1 (flat encI (idsL l)) by
    rcases rd_not HEm.out hr1 with h | ⟨b, o, hA, hm, hb, hc⟩
    · exact Or.inl h
    · refine Or.inr ⟨b, o, hA, ?_, hb, hc⟩
      rw [hM1]
      rintro (h | h)
      · exact hm h
      · omega)
  have HOn1 := hide (show ∀ kk, (Value.slice (some ⟨w.heap.size, 0, none⟩) 0 0).ownBlock = some kk → M1 kk from fun kk hk => by
    rw [hM1]
    have hk2 : w.heap.size = kk := by simpa [Value.ownBlock] using hk
    exact Or.inl hk2.symm)
  have HMn := hide (show ∀ kk, w1.heap.size ≤ kk → M1 kk from fun kk hk => by rw [hM1]; exact Or.inr hk)
  have HO1 := hide (own_only HO2.out (Only.of_below hb1 NoBlk) (fun _ _ h => h.elim))
  have HW1 := hide (Nat.le_refl w1.heap.size)
  clear hb1 hr1 hM1
  go_wp2_with fail
  go_loopw [5, 7] (fun v i wr => ∃ (k : Nat) (out : List SdM), k ≤ N ∧ i = .int .i64 k ∧ Hid (perM Ps l (sendsP l) ((idsL l).take k) = out) ∧ Hid (wr.ownsRow w.heap.size 110 7 v out.length (flat encSd out)) ∧ Hid (Below w.heap.size w wr) ∧ Hid (Rd wr M1 A1 (flat encI (idsL l))) ∧ Hid (∀ kk, v.ownBlock = some kk → M1 kk) ∧ Hid (w1.heap.size ≤ wr.heap.size)) (fun _ i _ => N - (intOf i).toNat)
  case atStart => exact ⟨0, [], Nat.zero_le _, rfl, hide (by simp [perM]), HO1, HB1, HR1, HOn1, HW1⟩
  case round =>
    clear HO1 HB1 HR1 HOn1 HW1
    obtain ⟨k, out, hk, rfl, hout, HOw, HB, HR, HOn, HSz⟩ := hrel
    obtain ⟨OA, oc, rfl, hoc⟩ := own_cap HOw.out
    have hol : out.length ≤ 1000000 := by
      have h1 := HPL.out ((idsL l).take k)
      rw [hout.out, List.length_take, ← HN.out] at h1
      have h2 : min k N ≤ 900 := by omega
      have h3 : min k N * (n + 1) ≤ 900 * 901 := Nat.mul_le_mul h2 (by omega)
      omega
    obtain ⟨m, hm⟩ : ∃ m, m = out.length := ⟨_, rfl⟩
    rw [← hm] at HOw hol hoc HOn ⊢
    have Hm := hide hm
    clear hm
    by_cases hlt : k < N
    case neg =>
      obtain rfl : k = N := by omega
      have hd : decide ((k : Int) < (k : Int)) = false := by simp
      have hd2 : decide (k < k) = false := by simp
      have HF := hide (show TT = out by rw [HPm.out, ← hout.out, HN.out, List.take_length])
      go_wp2_with fail
      go_ret
      rw [HF.out, ← Hm.out]
      exact ⟨⟨_, rfl, HOw.out⟩, HB.out⟩
    case pos =>
      have HF := hide (per_succ Ps l (sendsP l) (idsL l) k (by rw [← HN.out]; exact hlt))
      obtain ⟨b, oo, rfl, hb, g0⟩ := id_cell HR.out k (by rw [← HN.out]; exact hlt)
      have HIdc := hide (show ∀ w', Rd w' M1 (some ⟨b, oo, none⟩) (flat encI (idsL l)) → w'.cell? ⟨b, oo + k, none⟩ = some (.int .i64 (nth (idsL l) k)) from fun w' h => by
        obtain ⟨b2, o2, hA, _, hc⟩ := id_cell h k (by rw [← HN.out]; exact hlt)
        injection hA with hA
        injection hA with h1 h2
        subst h1 h2
        exact hc)
      obtain ⟨id, hid⟩ : ∃ id, id = nth (idsL l) k := ⟨_, rfl⟩
      rw [← hid] at g0 HF HIdc
      have d1 : decide ((k : Int) < (N : Int)) = true := by simp; exact hlt
      have d2 : decide (k < N) = true := by simp; exact hlt
      have j1 : (0 : Int) ≤ (k : Int) := by omega
      have j2 : (k : Int) < (N : Int) := by omega
      have w0 : IntKind.i64.wrap ((k : Int) + 1) = (k : Int) + 1 := IntWalk.i64_in _ (by omega)
      have HOfr := hide (HOf.out id wr HB.out)
      have HOne1 := hide (HOne.out id)
      clear hid
      go_wp2_with fail
      refine HOfr.out.mono ?_
      intro e w3 he
      obtain ⟨hb3, LA, lc, LB, ld, LC, c0, c3, rfl, _, _⟩ := ret_one31 he
      obtain ⟨sn, hsn2⟩ : ∃ sn, sn = scrN l id := ⟨_, rfl⟩
      have hsn3 : (lifeO (lifeGo id 0 l)).script = sn := hsn2.symm
      rw [hsn3]
      obtain ⟨i0, hi0⟩ : ∃ i0, i0 = (lifeO (lifeGo id 0 l)).ins.length := ⟨_, rfl⟩
      obtain ⟨s0, hs0⟩ : ∃ s0, s0 = (lifeO (lifeGo id 0 l)).steps.length := ⟨_, rfl⟩
      rw [← hi0, ← hs0]
      generalize (lifeO (lifeGo id 0 l)).start = lstart
      generalize (lifeO (lifeGo id 0 l)).read = lread
      generalize (lifeO (lifeGo id 0 l)).taken = ltaken
      generalize (lifeO (lifeGo id 0 l)).eof = leof
      generalize (lifeO (lifeGo id 0 l)).status = lstatus
      generalize whoL id (lifeGo id 0 l) = lwho
      generalize (lifeGo id 0 l).isSome = lis
      have HB3 := hide (HB.out.trans (hb3.mono HB.out.size))
      have HOw3 := hide (own_only HOw.out (Only.of_below hb3 NoBlk) (fun _ _ h => h.elim))
      have HR3 := hide (HR.out.below hb3)
      have HSz3 := hide (Nat.le_trans HSz.out hb3.size)
      clear he hb3 hi0 hs0 hsn3 g0 HOfr HOw HB HR
      have HSB := hide (show scrB Ps l id = ((decide (0 ≤ sn) && decide (sn < Ps.length)) && goodM (prM (prAt Ps sn.toNat))) by unfold scrB; rw [← hsn2])
      rw [← Hnp.out] at HSB
      rw [← hsn2] at HF
      clear hsn2
      go_upto_region 6 with fail
      obtain ⟨W4, hW4⟩ : ∃ W4, W4 = w3.alloc (.cells #[.int .i64 lwho, .int .i64 sn, .int .i64 lstart, .slice LA i0 lc, .slice LC c0 c3, .slice LB s0 ld, .string lread, .string ltaken, .bool leof, .int .i64 lstatus] 92) := ⟨_, rfl⟩
      obtain ⟨xg, hxg⟩ : ∃ xg, xg = w3.heap.size := ⟨_, rfl⟩
      have HLf := hide (show Blk W4 xg 92 #[.int .i64 lwho, .int .i64 sn, .int .i64 lstart, .slice LA i0 lc, .slice LC c0 c3, .slice LB s0 ld, .string lread, .string ltaken, .bool leof, .int .i64 lstatus] by rw [hW4, hxg]; exact Blk.new _ _ _)
      have HB4 := hide (show Below w.heap.size w W4 by rw [hW4]; exact HB3.out.alloc HB3.out.size _)
      have HOw4 := hide (show W4.ownsRow w.heap.size 110 7 (.slice OA m oc) m (flat encSd out) by rw [hW4]; exact own_only HOw3.out ((Only.refl NoBlk _).alloc _) (fun _ _ h => h.elim))
      have HR4 := hide (show Rd W4 M1 (some ⟨b, oo, none⟩) (flat encI (idsL l)) by rw [hW4]; exact HR3.out.only ((Only.refl NoBlk _).alloc _) (fun _ h => h.elim))
      have HSz4 := hide (show w1.heap.size ≤ W4.heap.size by rw [hW4]; have := HSz3.out; simp; omega)
      rw [← hW4, ← hxg]
      clear hW4 hxg HB3 HOw3 HR3
      have x1 : W4.cell? ⟨xg, 1, none⟩ = some (.int .i64 sn) := by rw [HLf.out.cell]; rfl
      go_cut [45] from 28 to 44 (fun v wx => v = .bool (scrB Ps l id) ∧ Hid (Below W4.heap.size W4 wx))
      case first =>
        by_cases hs0 : sn < 0
        · have b0 : decide ((0 : Int) ≤ sn) = false := by simp; omega
          have HQ := hide (show scrB Ps l id = false by rw [HSB.out, b0]; rfl)
          clear hs0
          go_wp2_with fail
          go_meet
          exact ⟨by rw [HQ.out], hide (Below.refl _ _)⟩
        · have b0 : decide ((0 : Int) ≤ sn) = true := by simp; omega
          by_cases hs1 : (np : Int) ≤ sn
          · have b1 : decide (sn < (np : Int)) = false := by simp; omega
            have HQ := hide (show scrB Ps l id = false by rw [HSB.out, b1]; simp)
            clear hs0 hs1
            go_wp2_with fail
            go_meet
            exact ⟨by rw [HQ.out], hide (Below.refl _ _)⟩
          · obtain ⟨q, hq⟩ : ∃ q : Nat, sn = q := ⟨sn.toNat, by omega⟩
            subst hq
            have hqn : q < np := by omega
            have b1 : decide ((q : Int) < (np : Int)) = true := by simp; omega
            have hqt : ((q : Int).toNat) = q := by omega
            rw [hqt] at HSB
            have HQ := hide (show scrB Ps l id = goodM (prM (prAt Ps q)) by rw [HSB.out, b0, b1]; rfl)
            have HGq := hide (fun (w' : World) (k : Below w.heap.size w w') => HGood.out w' k q hqn)
            obtain ⟨pb, po, rfl, hpb, p0, p1, p2, p3⟩ := HPr.out W4 HB4.out q hqn
            obtain ⟨gd, hgd⟩ : ∃ gd, gd = goodM (prM (prAt Ps q)) := ⟨_, rfl⟩
            have hgd' : goodM (progM (prAt Ps q).s (prAt Ps q).d (prAt Ps q).j (prAt Ps q).L) = gd := hgd.symm
            rw [hgd'] at HGq
            rw [← hgd] at HQ
            clear hgd hgd' hs0 hs1
            obtain ⟨v, hv⟩ : ∃ v, v = prAt Ps q := ⟨_, rfl⟩
            rw [← hv] at p0 p1 p2 p3 HGq
            obtain ⟨vs, vd, vj, vPA, vpc, vL⟩ := v
            obtain ⟨vn, hvn⟩ : ∃ vn, vn = vL.length := ⟨_, rfl⟩
            simp only at p0 p1 p2 p3 HGq
            rw [← hvn] at p3 HGq
            clear hvn hv
            have i1 : (0 : Int) ≤ (q : Int) := by omega
            have i2 : (q : Int) < (np : Int) := by omega
            go_wp2_with fail
            refine (HGq.out _ HB4.out).mono ?_
            rintro e w5 ⟨rfl, ho5⟩
            have HO5 := hide ho5
            clear ho5
            go_wp2_with fail
            go_meet
            exact ⟨by rw [HQ.out], HO5⟩
      case rest =>
        obtain ⟨rfl, hox⟩ := hcut
        clear x1
        have HLx := hide (HLf.out.below hox.out)
        have HBx := hide (HB4.out.trans (hox.out.mono HB4.out.size))
        have HOwx := hide (own_only HOw4.out (Only.of_below hox.out NoBlk) (fun _ _ h => h.elim))
        have HRx := hide (HR4.out.below hox.out)
        have HSzx := hide (Nat.le_trans HSz4.out hox.out.size)
        clear HLf HB4 HOw4 HR4 hox
        cases hsb : scrB Ps l id with
        | false =>
          have HF2 := hide (show perM Ps l (sendsP l) (List.take (k + 1) (idsL l)) = out by rw [HF.out, hsb, hout.out]; simp)
          clear hsb
          go_wp2_with fail
          go_roundw
          case rel => exact ⟨k + 1, out, by omega, by go_num, HF2, by rw [← Hm.out]; exact HOwx, HBx, HRx, HOn, HSzx⟩
          case measure => simp [intOf]; omega
        | true =>
          rw [hsb] at HSB
          have hh := HSB.out
          have hsn0 : 0 ≤ sn ∧ sn < np := by
            have := hh.symm
            simp only [Bool.and_eq_true, decide_eq_true_eq] at this
            exact this.1
          have HF2 := hide (show perM Ps l (sendsP l) (List.take (k + 1) (idsL l)) = out ++ sendsP l (prAt Ps sn.toNat) id by rw [HF.out, hsb, hout.out]; simp)
          clear hsb hh HSB
          obtain ⟨q, hq⟩ : ∃ q : Nat, sn = q := ⟨sn.toNat, by omega⟩
          subst hq
          have hqn : q < np := by omega
          have hqt : ((q : Int).toNat) = q := by omega
          rw [hqt] at HF2
          have HPq := hide (fun (w' : World) (k : Below w.heap.size w w') => HPr.out w' k q hqn)
          obtain ⟨pb, po, hSA, hpb, _⟩ := HPq.out _ HBx.out
          subst hSA
          have HPc := hide (show ∀ (w' : World) (k : Below w.heap.size w w'), w'.cell? ⟨pb, po + q * 4, none⟩ = some (.string (prAt Ps q).s) ∧ w'.cell? ⟨pb, po + q * 4 + 1, none⟩ = some (.int .i64 (prAt Ps q).d) ∧ w'.cell? ⟨pb, po + q * 4 + 2, none⟩ = some (.int .i64 (prAt Ps q).j) ∧ w'.cell? ⟨pb, po + q * 4 + 3, none⟩ = some (.slice (prAt Ps q).PA (prAt Ps q).L.length (prAt Ps q).pc) from fun w' k => by
            obtain ⟨b2, o2, h2, _, h3⟩ := HPq.out w' k
            injection h2 with h2
            injection h2 with h4 h5
            subst h4 h5
            exact h3)
          have HOneq := hide (fun (w' : World) (k : Below w.heap.size w w') => HOne1.out w' k q hqn)
          have hll := HLe.out (prAt Ps q) id
          obtain ⟨v, hv⟩ : ∃ v, v = prAt Ps q := ⟨_, rfl⟩
          rw [← hv] at HPc HOneq HF2 hll
          obtain ⟨vs, vd, vj, vPA, vpc, vL⟩ := v
          obtain ⟨fo, hfo⟩ : ∃ fo, fo = sendsP l ⟨vs, vd, vj, vPA, vpc, vL⟩ id := ⟨_, rfl⟩
          rw [← hfo] at HF2 hll
          have HOneq2 := hide (show ∀ (w' : World) (k : Below w.heap.size w w'), Calls Tryz.prog 64 #[.agg #[.string vs, .int .i64 vd, .int .i64 vj, .slice vPA vL.length vpc], .slice A n c, .int .i64 id] w' fun e w'' => (∃ v, e = .returned v ∧ w''.ownsRow w'.heap.size 110 7 v fo.length (flat encSd fo)) ∧ Below w'.heap.size w' w'' from fun w' k => by rw [hfo]; exact HOneq.out w' k)
          obtain ⟨vn, hvn⟩ : ∃ vn, vn = vL.length := ⟨_, rfl⟩
          simp only at HPc
          rw [← hvn] at HPc HOneq2
          have i1 : (0 : Int) ≤ (q : Int) := by omega
          have i2 : (q : Int) < (np : Int) := by omega
          clear hv hfo hvn hsn0 HOneq
          go_upto_region 7 with fail
          obtain ⟨V0, hV0⟩ : ∃ V9, V9 = wc.drew := ⟨_, rfl⟩
          have HL0 := hide (show Blk V0 xg 92 #[.int .i64 lwho, .int .i64 (q : Int), .int .i64 lstart, .slice LA i0 lc, .slice LC c0 c3, .slice LB s0 ld, .string lread, .string ltaken, .bool leof, .int .i64 lstatus] by rw [hV0]; exact HLx.out.drew)
          have HB0 := hide (show Below w.heap.size w V0 by rw [hV0]; exact below_drew' HBx.out)
          have HOw0 := hide (show V0.ownsRow w.heap.size 110 7 (.slice OA m oc) m (flat encSd out) by rw [hV0]; exact own_only HOwx.out (Only.refl NoBlk _).drew (fun _ _ h => h.elim))
          have HSzV := hide (show w1.heap.size ≤ V0.heap.size by rw [hV0]; exact HSzx.out)
          have HR0 := hide (show Rd V0 M1 (some ⟨b, oo, none⟩) (flat encI (idsL l)) by rw [hV0]; exact HRx.out)
          refine wp_region_held (S := fun w' => w'.cell? ⟨xg, 1, none⟩ = some (.int .i64 (q : Int)) ∧ w'.cell? ⟨pb, po + q * 4, none⟩ = some (.string vs) ∧ w'.cell? ⟨pb, po + q * 4 + 1, none⟩ = some (.int .i64 vd) ∧ w'.cell? ⟨pb, po + q * 4 + 2, none⟩ = some (.int .i64 vj) ∧ w'.cell? ⟨pb, po + q * 4 + 3, none⟩ = some (.slice vPA vn vpc) ∧ w'.cell? ⟨b, oo + k, none⟩ = some (.int .i64 id)) (by kernel_rfl) ?_
          change wpAnyH _ _ _ _ _ _ _ _ wc.drew
          have hHeld : (fun w' => w'.cell? ⟨xg, 1, none⟩ = some (.int .i64 (q : Int)) ∧ w'.cell? ⟨pb, po + q * 4, none⟩ = some (.string vs) ∧ w'.cell? ⟨pb, po + q * 4 + 1, none⟩ = some (.int .i64 vd) ∧ w'.cell? ⟨pb, po + q * 4 + 2, none⟩ = some (.int .i64 vj) ∧ w'.cell? ⟨pb, po + q * 4 + 3, none⟩ = some (.slice vPA vn vpc) ∧ w'.cell? ⟨b, oo + k, none⟩ = some (.int .i64 id)) wc.drew := by rw [← hV0]; exact (by obtain ⟨r0, r1, r2, r3⟩ := HPc.out _ (HB0.out); exact ⟨by rw [(HL0.out).cell]; rfl, r0, r1, r2, r3, HIdc.out _ HR0.out⟩)
          rw [← hV0] at hHeld ⊢
          simp only [List.size_toArray, List.length_cons, List.length_nil, Nat.zero_add, Nat.reduceAdd]
          clear hV0
          refine wpAnyH_take (i := 0) (v := ?_) rfl (by kernel_rfl) (by kernel_rfl) (by kernel_rfl) (fun _ _ _ h => h) (Or.inl ⟨by rfl, ?_⟩) (by assumption) ?_
          rotate_left
          · (intro w9 hS9; try simp only [List.getElem_toArray, List.getElem_cons_zero, List.getElem_cons_succ]
             go_simp <;> rfl)
          refine wpAnyH_take (i := 1) (v := ?_) rfl (by kernel_rfl) (by kernel_rfl) (by kernel_rfl) (fun _ _ _ h => h) (Or.inl ⟨by rfl, ?_⟩) (by assumption) ?_
          rotate_left
          · (intro w9 hS9; try simp only [List.getElem_toArray, List.getElem_cons_zero, List.getElem_cons_succ]
             go_simp <;> rfl)
          refine wpAnyH_take (i := 2) (v := ?_) rfl (by kernel_rfl) (by kernel_rfl) (by kernel_rfl) (fun _ _ _ h => h) (Or.inl ⟨by rfl, ?_⟩) (by assumption) ?_
          rotate_left
          · (intro w9 hS9; try simp only [List.getElem_toArray, List.getElem_cons_zero, List.getElem_cons_succ]
             go_simp <;> rfl)
          refine wpAnyH_take (i := 3) (v := ?_) rfl (by kernel_rfl) (by kernel_rfl) (by kernel_rfl) (fun _ _ _ h => h) (Or.inl ⟨by rfl, ?_⟩) (by assumption) ?_
          rotate_left
          · (intro w9 hS9; try simp only [List.getElem_toArray, List.getElem_cons_zero, List.getElem_cons_succ]
             go_simp <;> rfl)
          refine wpAnyH_take (i := 4) (v := ?_) rfl (by kernel_rfl) (by kernel_rfl) (by kernel_rfl) (fun _ _ _ h => h) (Or.inl ⟨by rfl, ?_⟩) (by assumption) ?_
          rotate_left
          · (intro w9 hS9; try simp only [List.getElem_toArray, List.getElem_cons_zero, List.getElem_cons_succ]
             go_simp <;> rfl)
          refine wpAnyH_take (i := 5) (v := ?_) rfl (by kernel_rfl) (by kernel_rfl) (by kernel_rfl) (fun _ _ _ h => h) (Or.inl ⟨by rfl, ?_⟩) (by assumption) ?_
          rotate_left
          · (intro w9 hS9; try simp only [List.getElem_toArray, List.getElem_cons_zero, List.getElem_cons_succ]
             go_simp <;> rfl)
          refine wpAnyH_take (i := 6) (v := ?_) rfl (by kernel_rfl) (by kernel_rfl) (by kernel_rfl) (fun _ _ _ h => h) (Or.inl ⟨by rfl, ?_⟩) (by assumption) ?_
          rotate_left
          · (intro w9 hS9; try simp only [List.getElem_toArray, List.getElem_cons_zero, List.getElem_cons_succ]
             go_simp <;> rfl)
          refine wpAnyH_take (i := 7) (v := ?_) rfl (by kernel_rfl) (by kernel_rfl) (by kernel_rfl) (fun _ _ _ h => h) (Or.inl ⟨by rfl, ?_⟩) (by assumption) ?_
          rotate_left
          · (intro w9 hS9; try simp only [List.getElem_toArray, List.getElem_cons_zero, List.getElem_cons_succ]
             go_simp <;> rfl)
          refine wpAnyH_take (i := 8) (v := ?_) rfl (by kernel_rfl) (by kernel_rfl) (by kernel_rfl) (fun _ _ _ h => h) (Or.inl ⟨by rfl, ?_⟩) (by assumption) ?_
          rotate_left
          · (intro w9 hS9; try simp only [List.getElem_toArray, List.getElem_cons_zero, List.getElem_cons_succ]
             go_simp <;> rfl)
          refine wpAnyH_take (i := 9) (v := ?_) rfl (by kernel_rfl) (by kernel_rfl) (by kernel_rfl) (fun _ _ _ h => h) (Or.inl ⟨by rfl, ?_⟩) (by assumption) ?_
          rotate_left
          · (intro w9 hS9; try simp only [List.getElem_toArray, List.getElem_cons_zero, List.getElem_cons_succ]
             go_simp <;> rfl)
          refine wpAnyH_take (i := 10) (v := ?_) rfl (by kernel_rfl) (by kernel_rfl) (by kernel_rfl) (fun _ _ _ h => h) (Or.inl ⟨by rfl, ?_⟩) (by assumption) ?_
          rotate_left
          · (intro w9 hS9; try simp only [List.getElem_toArray, List.getElem_cons_zero, List.getElem_cons_succ]
             go_simp <;> rfl)
          try simp only [Act.put, List.setIfInBounds_toArray, List.set_cons_zero, List.set_cons_succ, List.getElem_toArray, List.getElem_cons_zero, List.getElem_cons_succ]
          refine wpAnyH_ready (rs := [11]) (by kernel_rfl) (by simp) ?_
          refine AllReadyH.cons rfl (fun K hK => ?_) AllReadyH.nil
          try simp only [List.getElem_toArray, List.getElem_cons_zero, List.getElem_cons_succ]
          try go_simp
          go_at_call 64
          refine (HOneq2.out _ HB0.out).mono ?_
          rintro e V1 ⟨⟨v5, rfl, hown5⟩, hb5⟩
          obtain ⟨VA, vc2, rfl, _⟩ := own_cap hown5
          have HRo := hide (Rd.of_own (M := NoBlk) hown5 (fun _ h => h.elim))
          have HB5 := hide (HB0.out.trans (hb5.mono HB0.out.size))
          have HL5 := hide (HL0.out.below hb5)
          have HR5 := hide (HR0.out.below hb5)
          have HOw5 := hide (own_only HOw0.out (Only.of_below hb5 NoBlk) (fun _ _ h => h.elim))
          have HSz5 := hide (show w1.heap.size ≤ V1.heap.size from Nat.le_trans (show w1.heap.size ≤ V0.heap.size from HSzV.out) hb5.size)
          clear hown5 hb5
          refine hK.out _ _ (by obtain ⟨r0, r1, r2, r3⟩ := HPc.out _ (HB5.out); exact ⟨by rw [(HL5.out).cell]; rfl, r0, r1, r2, r3, HIdc.out _ HR5.out⟩) (fun hHeld => ?_)
          clear hK K
          try simp only [Act.put, List.setIfInBounds_toArray, List.set_cons_zero, List.set_cons_succ, List.getElem_toArray, List.getElem_cons_zero, List.getElem_cons_succ]
          have Hl6 := hide (flat_len encSd 7 encSd_len fo)
          have Hone := hide (flat_one36 fo)
          obtain ⟨mf, hmf⟩ : ∃ mf, mf = fo.length := ⟨_, rfl⟩
          rw [← hmf] at hll Hl6
          try rw [← hmf]
          have Hmf := hide hmf
          have hsz9 : w.heap.size ≤ V1.heap.size := HB5.out.size
          clear hmf
          refine wpAnyH_ready (rs := [12]) (by kernel_rfl) (by simp) ?_
          refine AllReadyH.cons rfl (fun K hK => ?_) AllReadyH.nil
          refine step_append_rd V1 (by rfl) (.tmp 46) (.tmp 57) _ (by rfl) w.heap.size 110 il _ 7 56 Tryz.underlying65 hil hlz0 hlz1 hlz2 rfl (by omega) (.slice OA m oc) m (flat encSd out) (by rfl) HOw5.out NoBlk VA mf vc2 (flat encSd fo) (by rfl) HRo.out Hl6.out Hone.out (by simp only [maxLen]; omega) (by omega) hsz9 ?_
          intro v9 V3 hown2 hgr how
          obtain ⟨A4, c4, rfl, hc4⟩ := own_cap hown2
          have HB6 := hide (HB5.out.grown hgr hsz9 (fun kk hk => own_ge HOw5.out kk hk))
          have HL6 := hide (Blk.grown HL5.out HOw5.out (by decide) hgr)
          have HR6 := hide (HR5.out.only ((Only.refl M1 V1).grown hgr (fun kk hk => Or.inl (HOn.out kk hk))) (fun _ h => h))
          have HOn6 := hide (show ∀ kk, (Value.slice A4 (m + mf) c4).ownBlock = some kk → M1 kk from fun kk hk => by
            rcases how with h | h
            · exact HOn.out kk (h ▸ hk)
            · rw [h] at hk; injection hk with hk; subst hk; exact HMn.out _ HSz5.out)
          have HSz6 := hide (Nat.le_trans HSz5.out hgr.size)
          have HOw6 := hide hown2
          clear hgr hown2 how
          refine hK.out _ _ (by obtain ⟨r0, r1, r2, r3⟩ := HPc.out _ (HB6.out); exact ⟨by rw [(HL6.out).cell]; rfl, r0, r1, r2, r3, HIdc.out _ HR6.out⟩) (fun hHeld => ?_)
          clear hK K
          refine wpAnyH_take (i := 13) (v := ?_) rfl (by kernel_rfl) (by kernel_rfl) (by kernel_rfl) (fun _ _ _ h => h) (Or.inl ⟨by rfl, ?_⟩) (by assumption) ?_
          rotate_left
          · (intro w9 hS9; try simp only [List.getElem_toArray, List.getElem_cons_zero, List.getElem_cons_succ]
             go_simp <;> rfl)
          try simp only [Act.put, List.setIfInBounds_toArray, List.set_cons_zero, List.set_cons_succ, List.getElem_toArray, List.getElem_cons_zero, List.getElem_cons_succ]
          refine wpAnyH_done (by kernel_rfl) ?_ _
          try simp only [Exit.then]
          clear hHeld
          go_wp2_with fail
          go_roundw
          case rel =>
            refine ⟨k + 1, out ++ fo, by omega, by go_num, HF2, ?_, HB6, HR6, HOn6, HSz6⟩
            rw [List.length_append, ← Hm.out, ← Hmf.out, flat_append]
            exact HOw6
          case measure => simp [intOf]; omega
end Go.Proofs.YtdmdohjdmnmabaaGreat
