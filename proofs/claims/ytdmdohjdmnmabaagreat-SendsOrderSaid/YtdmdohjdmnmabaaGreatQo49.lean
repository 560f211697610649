/- What one had to write, by the document. Conditions: those of each theorem. -/
import Derived.Test.YtdmdohjdmnmabaaGreatQo35
import Derived.Test.YtdmdohjdmnmabaaGreatQo42
import Derived.Test.YtdmdohjdmnmabaaGreatQo43
import Derived.Test.YtdmdohjdmnmabaaGreatQo47
import Derived.Test.YtdmdohjdmnmabaaGreatQo48
namespace Go.Proofs.YtdmdohjdmnmabaaGreat
open Go.RowKit
set_option linter.unusedVariables false
set_option linter.unusedSimpArgs false

theorem bytes_beq (a b : ByteArray) : (a.toList == b.toList) = decide (a = b) := by
  rw [Bool.eq_iff_iff]
  simp only [beq_iff_eq, decide_eq_true_eq]
  constructor
  · intro h
    rw [ByteArray.toList_eq, ByteArray.toList_eq] at h
    exact ByteArray.ext (Array.toList_inj.1 h)
  · intro h; rw [h]
set_option maxRecDepth 100000 in
set_option maxHeartbeats 25600000 in
theorem refOrder_c (SA : Option Addr) (sc : Nat) (Ps : List PrV) (A : Option Addr) (c : Nat) (l : List Ev) (id : Int) (w : World) (hs : PrsRd w NoBlk SA Ps) (hsn : Ps.length ≤ maxLen) (hsz : ∀ v ∈ Ps, PrSz v) (hr : Rd w NoBlk A (flat encEv l)) (hn : l.length ≤ 900) (hx : ∀ x ∈ l, x.s.size ≤ 100) :
    Calls Tryz.prog 37 #[.slice SA Ps.length sc, .slice A l.length c, .int .i64 id] w fun e w' => e = .returned (.tuple #[.string (ordS Ps l id).1, .bool (ordS Ps l id).2]) ∧ Below w.heap.size w w' := by
  have hsn' : Ps.length ≤ 9223372036854775807 := hsn
  have HOf := hide (refOf_c A c l id w hr (by omega) hx)
  have HPr := hide (fun (w' : World) (k : Below w.heap.size w w') (i : Nat) (hi : i < Ps.length) => pr_cells (hs.1.below k) i hi)
  have HGood := hide (fun (w' : World) (k : Below w.heap.size w w') (i : Nat) (hi : i < Ps.length) => refGood_c (prAt Ps i).s (prAt Ps i).d (prAt Ps i).j (prAt Ps i).PA (prAt Ps i).pc (prAt Ps i).L w' ⟨((hs.2 _ (prAt_mem hi)).1).below k, fun v hv => ((hs.2 _ (prAt_mem hi)).2 v hv).below k⟩ (hsz _ (prAt_mem hi)).1 (hsz _ (prAt_mem hi)).2.1 (hsz _ (prAt_mem hi)).2.2)
  have HOne := hide (fun (w' : World) (k : Below w.heap.size w w') (i : Nat) (hi : i < Ps.length) => refsone_c (prAt Ps i).s (prAt Ps i).d (prAt Ps i).j (prAt Ps i).PA (prAt Ps i).pc (prAt Ps i).L A c l id w' ⟨((hs.2 _ (prAt_mem hi)).1).below k, fun v hv => ((hs.2 _ (prAt_mem hi)).2 v hv).below k⟩ (hsz _ (prAt_mem hi)).1 (hsz _ (prAt_mem hi)).2.1 (hsz _ (prAt_mem hi)).2.2 (hr.below k) (by omega) hx)
  have HOps := hide (fun (w' : World) (k : Below w.heap.size w w') (i : Nat) (hi : i < Ps.length) (j : Nat) (hj : j < (prAt Ps i).L.length) => op_cells ((hs.2 _ (prAt_mem hi)).1.below k) j hj)
  have HLe := hide (fun (p : ProgM) => sends_le p id l)
  obtain ⟨R, hR⟩ : ∃ R, R = ordS Ps l id := ⟨_, rfl⟩
  have HR := hide hR
  rw [← hR]
  obtain ⟨n, hnl⟩ : ∃ n, n = l.length := ⟨_, rfl⟩
  obtain ⟨np, hnp⟩ : ∃ np, np = Ps.length := ⟨_, rfl⟩
  have Hnl := hide hnl
  have Hnp := hide hnp
  rw [← hnl] at HOf HOne hn HLe ⊢
  rw [← hnp] at HPr HGood HOne HOps hsn' ⊢
  have HLz := hide (fun (i : Nat) (hi : i < Ps.length) => (show (prAt Ps i).L.length ≤ 9223372036854775807 from (hsz _ (prAt_mem hi)).1))
  rw [← hnp] at HLz
  clear hs hsn hsz hr hx hnl hnp hR
  go_enter Tryz.func37, Tryz.ntmps37
  go_wp2_with fail
  refine HOf.out.mono ?_
  intro e w3 he
  obtain ⟨hb3, LA, lc, LB, ld, LC, c0, c3, rfl, _, _⟩ := ret_one31 he
  obtain ⟨sn, hsn2⟩ : ∃ sn, sn = scrN l id := ⟨_, rfl⟩
  have hsn3 : (lifeO (lifeGo id 0 l)).script = sn := hsn2.symm
  rw [hsn3]
  obtain ⟨lis, hlis⟩ : ∃ lis, lis = (lifeGo id 0 l).isSome := ⟨_, rfl⟩
  obtain ⟨t, ht⟩ : ∃ t, t = (lifeO (lifeGo id 0 l)).taken := ⟨_, rfl⟩
  rw [← hlis, ← ht]
  generalize (lifeO (lifeGo id 0 l)).ins.length = i0
  generalize (lifeO (lifeGo id 0 l)).steps.length = s0
  generalize (lifeO (lifeGo id 0 l)).start = lstart
  generalize (lifeO (lifeGo id 0 l)).read = lread
  generalize (lifeO (lifeGo id 0 l)).eof = leof
  generalize (lifeO (lifeGo id 0 l)).status = lstatus
  generalize whoL id (lifeGo id 0 l) = lwho
  have HB3 := hide hb3
  have HSB := hide (show scrO Ps l id = (lis && ((decide (0 ≤ sn) && decide (sn < Ps.length)) && goodM (prM (prAt Ps sn.toNat)))) by unfold scrO scrB; rw [← hsn2, ← hlis])
  rw [← Hnp.out] at HSB
  have HRt := hide (show scrO Ps l id = true → R = (catS (prM (prAt Ps sn.toNat)) (sendsM (prM (prAt Ps sn.toNat)) id l), rightS (prM (prAt Ps sn.toNat)) (sendsM (prM (prAt Ps sn.toNat)) id l) t) from fun h => by rw [HR.out, hsn2, ht]; unfold ordS; rw [if_pos h])
  have HRf := hide (show scrO Ps l id = false → R = (⟨#[]⟩, false) from fun h => by rw [HR.out]; unfold ordS; rw [h]; rfl)
  clear he hb3 hsn3 hsn2 hlis ht HR HOf
  go_upto_region 2 with fail
  obtain ⟨W4, hW4⟩ : ∃ W4, W4 = w3.alloc (.cells #[.int .i64 lwho, .int .i64 sn, .int .i64 lstart, .slice LA i0 lc, .slice LC c0 c3, .slice LB s0 ld, .string lread, .string t, .bool leof, .int .i64 lstatus] 92) := ⟨_, rfl⟩
  obtain ⟨xg, hxg⟩ : ∃ xg, xg = w3.heap.size := ⟨_, rfl⟩
  have HLf := hide (show Blk W4 xg 92 #[.int .i64 lwho, .int .i64 sn, .int .i64 lstart, .slice LA i0 lc, .slice LC c0 c3, .slice LB s0 ld, .string lread, .string t, .bool leof, .int .i64 lstatus] by rw [hW4, hxg]; exact Blk.new _ _ _)
  have HB4 := hide (show Below w.heap.size w W4 by rw [hW4]; exact HB3.out.alloc HB3.out.size _)
  rw [← hW4, ← hxg]
  clear hW4 hxg HB3
  have x1 : W4.cell? ⟨xg, 1, none⟩ = some (.int .i64 sn) := by rw [HLf.out.cell]; rfl
  go_cut [42] from 20 to 41 (fun v wx => v = .bool (!scrO Ps l id) ∧ Hid (Below W4.heap.size W4 wx))
  case first =>
    cases lis with
    | false =>
      have HQ := hide (show scrO Ps l id = false by rw [HSB.out]; rfl)
      go_wp2_with fail
      go_meet
      exact ⟨by rw [HQ.out]; rfl, hide (Below.refl _ _)⟩
    | true =>
      by_cases hs0 : sn < 0
      · have b0 : decide (sn < (0 : Int)) = true := by simp; omega
        have HQ := hide (show scrO Ps l id = false by rw [HSB.out, show decide ((0 : Int) ≤ sn) = false by simp; omega]; rfl)
        clear hs0
        go_wp2_with fail
        go_meet
        exact ⟨by rw [HQ.out]; rfl, hide (Below.refl _ _)⟩
      · have b0 : decide (sn < (0 : Int)) = false := by simp; omega
        by_cases hs1 : (np : Int) ≤ sn
        · have b1 : decide ((np : Int) ≤ sn) = true := by simp; omega
          have HQ := hide (show scrO Ps l id = false by rw [HSB.out, show decide (sn < (np : Int)) = false by simp; omega]; simp)
          clear hs0 hs1
          go_wp2_with fail
          go_meet
          exact ⟨by rw [HQ.out]; rfl, hide (Below.refl _ _)⟩
        · obtain ⟨q, hq⟩ : ∃ q : Nat, sn = q := ⟨sn.toNat, by omega⟩
          subst hq
          have hqn : q < np := by omega
          have b1 : decide ((np : Int) ≤ (q : Int)) = false := by simp; omega
          have b2 : decide (np ≤ q) = false := by simp; omega
          have hqt : ((q : Int).toNat) = q := by omega
          rw [hqt] at HSB
          have HQ := hide (show scrO Ps l id = goodM (prM (prAt Ps q)) by rw [HSB.out, show decide ((q : Int) < (np : Int)) = true by simp; omega, show decide ((0 : Int) ≤ (q : Int)) = true by simp]; rfl)
          have HGq := hide (fun (w' : World) (k : Below w.heap.size w w') => HGood.out w' k q hqn)
          obtain ⟨pb, po, rfl, hpb, p0, p1, p2, p3⟩ := HPr.out W4 HB4.out q hqn
          obtain ⟨gd, hgd⟩ : ∃ gd, gd = goodM (prM (prAt Ps q)) := ⟨_, rfl⟩
          have hgd' : goodM (progM (prAt Ps q).s (prAt Ps q).d (prAt Ps q).j (prAt Ps q).L) = gd := hgd.symm
          rw [hgd'] at HGq
          rw [← hgd] at HQ
          clear hgd hgd' hs0 hs1
          obtain ⟨v, hv⟩ : ∃ v, v = prAt Ps q := ⟨_, rfl⟩
          rw [← hv] at p0 p1 p2 p3 HGq
          obtain ⟨vs, vd, vj, vPA, vpc, vL⟩ := v
          obtain ⟨vn, hvn⟩ : ∃ vn, vn = vL.length := ⟨_, rfl⟩
          simp only at p0 p1 p2 p3 HGq
          rw [← hvn] at p3 HGq
          clear hvn hv
          have i1 : (0 : Int) ≤ (q : Int) := by omega
          have i2 : (q : Int) < (np : Int) := by omega
          go_wp2_with fail
          refine (HGq.out _ HB4.out).mono ?_
          rintro e w5 ⟨rfl, ho5⟩
          have HO5 := hide ho5
          clear ho5
          go_wp2_with fail
          go_meet
          exact ⟨by rw [HQ.out], HO5⟩
  case rest =>
    obtain ⟨rfl, hox⟩ := hcut
    clear x1
    have HLx := hide (HLf.out.below hox.out)
    have HBx := hide (HB4.out.trans (hox.out.mono HB4.out.size))
    clear HLf HB4 hox
    cases hsb : scrO Ps l id with
    | false =>
      have HF2 := hide (HRf.out hsb)
      clear hsb
      go_wp2_with fail
      refine bodyPost_ret (v := .tuple #[.string ⟨#[]⟩, .bool false]) (by simp [results, Tryz.results37, go_sem]) rfl ?_
      rw [HF2.out]
      exact ⟨rfl, HBx.out⟩
    | true =>
      have hsn0 : (0 ≤ sn ∧ sn < np) ∧ goodM (prM (prAt Ps sn.toNat)) = true := by
        have := HSB.out.symm
        rw [hsb] at this
        simp only [Bool.and_eq_true, decide_eq_true_eq] at this
        exact this.2
      have HF2 := hide (HRt.out hsb)
      clear hsb HSB HRt HRf
      obtain ⟨q, hq⟩ : ∃ q : Nat, sn = q := ⟨sn.toNat, by omega⟩
      subst hq
      have hqn : q < np := by omega
      have hqt : ((q : Int).toNat) = q := by omega
      rw [hqt] at HF2 hsn0
      have HPq := hide (fun (w' : World) (k : Below w.heap.size w w') => HPr.out w' k q hqn)
      obtain ⟨pb, po, hSA, hpb, -⟩ := HPq.out _ HBx.out
      subst hSA
      have HPc := hide (show ∀ (w' : World) (k : Below w.heap.size w w'), w'.cell? ⟨pb, po + q * 4, none⟩ = some (.string (prAt Ps q).s) ∧ w'.cell? ⟨pb, po + q * 4 + 1, none⟩ = some (.int .i64 (prAt Ps q).d) ∧ w'.cell? ⟨pb, po + q * 4 + 2, none⟩ = some (.int .i64 (prAt Ps q).j) ∧ w'.cell? ⟨pb, po + q * 4 + 3, none⟩ = some (.slice (prAt Ps q).PA (prAt Ps q).L.length (prAt Ps q).pc) from fun w' k => by
        obtain ⟨b2, o2, h2, _, h3⟩ := HPq.out w' k
        injection h2 with h2
        injection h2 with h4 h5
        subst h4 h5
        exact h3)
      have HOneq := hide (fun (w' : World) (k : Below w.heap.size w w') => HOne.out w' k q hqn)
      have HOpq := hide (fun (w' : World) (k : Below w.heap.size w w') => HOps.out w' k q hqn)
      have hgd := hsn0.2
      have hLz := HLz.out q hqn
      have i1 : (0 : Int) ≤ (q : Int) := by omega
      have i2 : (q : Int) < (np : Int) := by omega
      obtain ⟨v, hv⟩ : ∃ v, v = prAt Ps q := ⟨_, rfl⟩
      rw [← hv] at HPc HOneq HOpq HF2 hgd hLz
      clear hv hsn0 HPq HPr HGood HOne HOps hpb
      obtain ⟨vs, vd, vj, vPA, vpc, vL⟩ := v
      obtain ⟨P, hP⟩ : ∃ P, P = progM vs vd vj vL := ⟨_, rfl⟩
      have hP2 : prM ⟨vs, vd, vj, vPA, vpc, vL⟩ = P := hP.symm
      obtain ⟨Q, hQ⟩ : ∃ Q, Q = sendsM P id l := ⟨_, rfl⟩
      rw [hP2, ← hQ] at HF2
      rw [hP2] at hgd
      simp only at HPc HOneq HOpq hLz
      rw [← hP, ← hQ] at HOneq
      have hok : ∀ x ∈ Q, sendB P x.op = true := fun x hx => sends_ok (hQ ▸ hx)
      have HTx := hide (fun (k : Nat) (hk : k < Q.length) => (show 0 ≤ Q[k].op ∧ Q[k].op < (vL.length : Int) ∧ txtS P Q[k] = (opAt vL Q[k].op.toNat).o.text from by
        have h1 := sendB_lt (hok _ (List.getElem_mem hk))
        have h2 : P.ops.length = vL.length := by rw [hP]; simp [progM]
        rw [h2] at h1
        refine ⟨h1.1, h1.2.1, ?_⟩
        unfold txtS opAt
        have h3 : Q[k].op.toNat < vL.length := by omega
        rw [hP]
        simp [progM, List.getD, h3]))
      have HCt := hide (fun (k : Nat) (hk : k ≤ Q.length) => cat_le hgd hok k hk)
      have HTl := hide (fun (k : Nat) (hk : k < Q.length) => txt_le hgd (hok _ (List.getElem_mem hk)))
      have hql : Q.length ≤ n + 1 := by rw [hQ]; exact HLe.out P
      have HCs := hide (catS_succ P Q)
      have HLs := hide (lstS_succ P Q)
      clear hQ hok hgd HLe hP hP2
      obtain ⟨vn, hvn⟩ : ∃ vn, vn = vL.length := ⟨_, rfl⟩
      rw [← hvn] at HPc HOneq HTx HOpq hLz
      have hvm : vn ≤ 9223372036854775807 := hLz
      obtain ⟨N, hN⟩ : ∃ N, N = Q.length := ⟨_, rfl⟩
      have HN := hide hN
      rw [← hN] at hql HOneq
      have x1 : wc.cell? ⟨xg, 1, none⟩ = some (.int .i64 (q : Int)) := by rw [HLx.out.cell]; rfl
      obtain ⟨p0, p1, p2, p3⟩ := HPc.out _ HBx.out
      clear hvn hN
      go_wp2_with fail
      refine (HOneq.out _ HBx.out).mono ?_
      rintro e V1 ⟨⟨v5, rfl, hown5⟩, hb5⟩
      obtain ⟨VA, vc2, rfl, _⟩ := own_cap hown5
      have HRo := hide (Rd.of_own (M := NoBlk) hown5 (fun _ h => h.elim))
      have HB5 := hide (HBx.out.trans (hb5.mono HBx.out.size))
      have HL5 := hide (HLx.out.below hb5)
      clear hown5 hb5 x1 p0 p1 p2 p3 HLx HBx HOneq
      go_wp2_with fail
      go_loopw [10, 11, 13] (fun s le i wr => ∃ k : Nat, k ≤ N ∧ s = .string (catS P (Q.take k)) ∧ le = .int .i64 (lstS P (Q.take k)) ∧ i = .int .i64 k ∧ Hid (Below w.heap.size w wr) ∧ Hid (Blk wr xg 92 #[.int .i64 lwho, .int .i64 (q : Int), .int .i64 lstart, .slice LA i0 lc, .slice LC c0 c3, .slice LB s0 ld, .string lread, .string t, .bool leof, .int .i64 lstatus]) ∧ Hid (Rd wr NoBlk VA (flat encSd Q))) (fun _ _ i _ => N - (intOf i).toNat)
      case atStart => exact ⟨0, Nat.zero_le _, rfl, rfl, rfl, HB5, HL5, HRo⟩
      case round =>
        clear HB5 HL5 HRo
        obtain ⟨k, hk, rfl, rfl, rfl, HB, HL, HRq⟩ := hrel
        by_cases hlt : k < N
        case neg =>
          obtain rfl : k = N := by omega
          have hd : decide ((k : Int) < (k : Int)) = false := by simp
          have hd2 : decide (k < k) = false := by simp
          have e0 : Q.take k = Q := by rw [HN.out, List.take_length]
          rw [e0]
          have HFr := hide (show R = (catS P Q, decide (lstS P Q ≤ t.size) && (decide (t.size ≤ (catS P Q).size) && decide ((catS P Q).extract 0 t.size = t))) from HF2.out)
          obtain ⟨cs, hcs⟩ : ∃ cs, cs = catS P Q := ⟨_, rfl⟩
          obtain ⟨le, hle⟩ : ∃ le, le = lstS P Q := ⟨_, rfl⟩
          rw [← hcs, ← hle] at HFr
          rw [← hcs, ← hle]
          have x7 : wr.cell? ⟨xg, 7, none⟩ = some (.string t) := by rw [HL.out.cell]; rfl
          clear hcs hle e0 HF2 HCs HLs HTx HCt HTl
          by_cases g1 : le ≤ t.size
          case neg =>
            have f1 : decide ((le : Int) ≤ (t.size : Int)) = false := by simp; omega
            have f2 : decide (le ≤ t.size) = false := by simp; omega
            go_upto_region 10 with fail
            go_quiet (fail)
            go_wp2_with fail
            refine bodyPost_ret (v := .tuple #[.string cs, .bool false]) (by simp [results, Tryz.results37, go_sem]) rfl ?_
            exact ⟨by rw [HFr.out]; simp [f2], ⟨HB.out.os, HB.out.tape, HB.out.output, HB.out.size, HB.out.block⟩⟩
          case pos =>
            have f1 : decide ((le : Int) ≤ (t.size : Int)) = true := by simp; omega
            have f2 : decide (le ≤ t.size) = true := by simp; omega
            by_cases g2 : t.size ≤ cs.size
            case neg =>
              have f3 : decide ((t.size : Int) ≤ (cs.size : Int)) = false := by simp; omega
              have f4 : decide (t.size ≤ cs.size) = false := by simp; omega
              go_upto_region 10 with fail
              go_quiet (fail)
              go_wp2_with fail
              refine bodyPost_ret (v := .tuple #[.string cs, .bool false]) (by simp [results, Tryz.results37, go_sem]) rfl ?_
              exact ⟨by rw [HFr.out]; simp [f2, f4], ⟨HB.out.os, HB.out.tape, HB.out.output, HB.out.size, HB.out.block⟩⟩
            case pos =>
              have f3 : decide ((t.size : Int) ≤ (cs.size : Int)) = true := by simp; omega
              have f4 : decide (t.size ≤ cs.size) = true := by simp; omega
              have f5 : (0 : Int) ≤ (t.size : Int) := by omega
              have f6 : (t.size : Int) ≤ (cs.size : Int) := by omega
              go_upto_region 10 with fail
              obtain ⟨V0, hV0⟩ : ∃ V9, V9 = wr.drew := ⟨_, rfl⟩
              have HL0 := hide (show Blk V0 xg 92 #[.int .i64 lwho, .int .i64 (q : Int), .int .i64 lstart, .slice LA i0 lc, .slice LC c0 c3, .slice LB s0 ld, .string lread, .string t, .bool leof, .int .i64 lstatus] by rw [hV0]; exact HL.out.drew)
              have HB0 := hide (show Below w.heap.size w V0 by rw [hV0]; exact ⟨HB.out.os, HB.out.tape, HB.out.output, HB.out.size, HB.out.block⟩)
              refine wp_region_held (S := fun w' => w'.cell? ⟨xg, 7, none⟩ = some (.string t)) (by kernel_rfl) ?_
              change wpAnyH _ _ _ _ _ _ _ _ wr.drew
              have hHeld : (fun w' => w'.cell? ⟨xg, 7, none⟩ = some (.string t)) wr.drew := (by rw [← hV0]; show V0.cell? _ = _; rw [HL0.out.cell]; rfl)
              rw [← hV0] at hHeld ⊢
              simp only [List.size_toArray, List.length_cons, List.length_nil, Nat.zero_add, Nat.reduceAdd]
              clear hV0
              refine wpAnyH_take (i := 0) (v := ?_) rfl (by kernel_rfl) (by kernel_rfl) (by kernel_rfl) (fun _ _ _ h => h) (Or.inl ⟨by rfl, ?_⟩) (by assumption) ?_
              rotate_left
              · (intro w9 hS9; try simp only [List.getElem_toArray, List.getElem_cons_zero, List.getElem_cons_succ]
                 go_simp <;> rfl)
              try simp only [Act.put, List.setIfInBounds_toArray, List.set_cons_zero, List.set_cons_succ, List.getElem_toArray, List.getElem_cons_zero, List.getElem_cons_succ]
              refine wpAnyH_take (i := 1) (v := ?_) rfl (by kernel_rfl) (by kernel_rfl) (by kernel_rfl) (fun _ _ _ h => h) (Or.inl ⟨by rfl, ?_⟩) (by assumption) ?_
              rotate_left
              · (intro w9 hS9; try simp only [List.getElem_toArray, List.getElem_cons_zero, List.getElem_cons_succ]
                 go_simp <;> rfl)
              try simp only [Act.put, List.setIfInBounds_toArray, List.set_cons_zero, List.set_cons_succ, List.getElem_toArray, List.getElem_cons_zero, List.getElem_cons_succ]
              refine wpAnyH_take (i := 2) (v := ?_) rfl (by kernel_rfl) (by kernel_rfl) (by kernel_rfl) (fun _ _ _ h => h) (Or.inl ⟨by rfl, ?_⟩) (by assumption) ?_
              rotate_left
              · (intro w9 hS9; try simp only [List.getElem_toArray, List.getElem_cons_zero, List.getElem_cons_succ]
                 go_simp <;> rfl)
              try simp only [Act.put, List.setIfInBounds_toArray, List.set_cons_zero, List.set_cons_succ, List.getElem_toArray, List.getElem_cons_zero, List.getElem_cons_succ]
              refine wpAnyH_take (i := 3) (v := ?_) rfl (by kernel_rfl) (by kernel_rfl) (by kernel_rfl) (fun _ _ _ h => h) (Or.inl ⟨by rfl, ?_⟩) (by assumption) ?_
              rotate_left
              · (intro w9 hS9; try simp only [List.getElem_toArray, List.getElem_cons_zero, List.getElem_cons_succ]
                 go_simp <;> rfl)
              try simp only [Act.put, List.setIfInBounds_toArray, List.set_cons_zero, List.set_cons_succ, List.getElem_toArray, List.getElem_cons_zero, List.getElem_cons_succ]
              refine wpAnyH_take (i := 4) (v := ?_) rfl (by kernel_rfl) (by kernel_rfl) (by kernel_rfl) (fun _ _ _ h => h) (Or.inl ⟨by rfl, ?_⟩) (by assumption) ?_
              rotate_left
              · (intro w9 hS9; try simp only [List.getElem_toArray, List.getElem_cons_zero, List.getElem_cons_succ]
                 go_simp <;> rfl)
              try simp only [Act.put, List.setIfInBounds_toArray, List.set_cons_zero, List.set_cons_succ, List.getElem_toArray, List.getElem_cons_zero, List.getElem_cons_succ]
              refine wpAnyH_take (i := 5) (v := ?_) rfl (by kernel_rfl) (by kernel_rfl) (by kernel_rfl) (fun _ _ _ h => h) (Or.inl ⟨by rfl, ?_⟩) (by assumption) ?_
              rotate_left
              · (intro w9 hS9; try simp only [List.getElem_toArray, List.getElem_cons_zero, List.getElem_cons_succ]
                 go_simp <;> rfl)
              try simp only [Act.put, List.setIfInBounds_toArray, List.set_cons_zero, List.set_cons_succ, List.getElem_toArray, List.getElem_cons_zero, List.getElem_cons_succ]
              refine wpAnyH_take (i := 6) (v := ?_) rfl (by kernel_rfl) (by kernel_rfl) (by kernel_rfl) (fun _ _ _ h => h) (Or.inl ⟨by rfl, ?_⟩) (by assumption) ?_
              rotate_left
              · (intro w9 hS9; try simp only [List.getElem_toArray, List.getElem_cons_zero, List.getElem_cons_succ]
                 go_simp <;> rfl)
              try simp only [Act.put, List.setIfInBounds_toArray, List.set_cons_zero, List.set_cons_succ, List.getElem_toArray, List.getElem_cons_zero, List.getElem_cons_succ]
              refine wpAnyH_take (i := 7) (v := ?_) rfl (by kernel_rfl) (by kernel_rfl) (by kernel_rfl) (fun _ _ _ h => h) (Or.inl ⟨by rfl, ?_⟩) (by assumption) ?_
              rotate_left
              · (intro w9 hS9; try simp only [List.getElem_toArray, List.getElem_cons_zero, List.getElem_cons_succ]
                 go_simp <;> rfl)
              try simp only [Act.put, List.setIfInBounds_toArray, List.set_cons_zero, List.set_cons_succ, List.getElem_toArray, List.getElem_cons_zero, List.getElem_cons_succ]
              refine wpAnyH_take (i := 8) (v := ?_) rfl (by kernel_rfl) (by kernel_rfl) (by kernel_rfl) (fun _ _ _ h => h) (Or.inl ⟨by rfl, ?_⟩) (by assumption) ?_
              rotate_left
              · (intro w9 hS9; try simp only [List.getElem_toArray, List.getElem_cons_zero, List.getElem_cons_succ]
                 go_simp <;> rfl)
              try simp only [Act.put, List.setIfInBounds_toArray, List.set_cons_zero, List.set_cons_succ, List.getElem_toArray, List.getElem_cons_zero, List.getElem_cons_succ]
              refine wpAnyH_take (i := 9) (v := ?_) rfl (by kernel_rfl) (by kernel_rfl) (by kernel_rfl) (fun _ _ _ h => h) (Or.inl ⟨by rfl, ?_⟩) (by assumption) ?_
              rotate_left
              · (intro w9 hS9; try simp only [List.getElem_toArray, List.getElem_cons_zero, List.getElem_cons_succ]
                 go_simp <;> rfl)
              try simp only [Act.put, List.setIfInBounds_toArray, List.set_cons_zero, List.set_cons_succ, List.getElem_toArray, List.getElem_cons_zero, List.getElem_cons_succ]
              refine wpAnyH_take (i := 10) (v := ?_) rfl (by kernel_rfl) (by kernel_rfl) (by kernel_rfl) (fun _ _ _ h => h) (Or.inl ⟨by rfl, ?_⟩) (by assumption) ?_
              rotate_left
              · (intro w9 hS9; try simp only [List.getElem_toArray, List.getElem_cons_zero, List.getElem_cons_succ]
                 go_simp <;> rfl)
              try simp only [Act.put, List.setIfInBounds_toArray, List.set_cons_zero, List.set_cons_succ, List.getElem_toArray, List.getElem_cons_zero, List.getElem_cons_succ]
              refine wpAnyH_take (i := 11) (v := ?_) rfl (by kernel_rfl) (by kernel_rfl) (by kernel_rfl) (fun _ _ _ h => h) (Or.inl ⟨by rfl, ?_⟩) (by assumption) ?_
              rotate_left
              · (intro w9 hS9; try simp only [List.getElem_toArray, List.getElem_cons_zero, List.getElem_cons_succ]
                 go_simp <;> rfl)
              try simp only [Act.put, List.setIfInBounds_toArray, List.set_cons_zero, List.set_cons_succ, List.getElem_toArray, List.getElem_cons_zero, List.getElem_cons_succ]
              refine wpAnyH_take (i := 12) (v := ?_) rfl (by kernel_rfl) (by kernel_rfl) (by kernel_rfl) (fun _ _ _ h => h) (Or.inl ⟨by rfl, ?_⟩) (by assumption) ?_
              rotate_left
              · (intro w9 hS9; try simp only [List.getElem_toArray, List.getElem_cons_zero, List.getElem_cons_succ]
                 go_simp <;> rfl)
              try simp only [Act.put, List.setIfInBounds_toArray, List.set_cons_zero, List.set_cons_succ, List.getElem_toArray, List.getElem_cons_zero, List.getElem_cons_succ]
              refine wpAnyH_take (i := 13) (v := ?_) rfl (by kernel_rfl) (by kernel_rfl) (by kernel_rfl) (fun _ _ _ h => h) (Or.inl ⟨by rfl, ?_⟩) (by assumption) ?_
              rotate_left
              · (intro w9 hS9; try simp only [List.getElem_toArray, List.getElem_cons_zero, List.getElem_cons_succ]
                 go_simp <;> rfl)
              try simp only [Act.put, List.setIfInBounds_toArray, List.set_cons_zero, List.set_cons_succ, List.getElem_toArray, List.getElem_cons_zero, List.getElem_cons_succ]
              refine wpAnyH_take (i := 14) (v := ?_) rfl (by kernel_rfl) (by kernel_rfl) (by kernel_rfl) (fun _ _ _ h => h) (Or.inl ⟨by rfl, ?_⟩) (by assumption) ?_
              rotate_left
              · (intro w9 hS9; try simp only [List.getElem_toArray, List.getElem_cons_zero, List.getElem_cons_succ]
                 go_simp <;> rfl)
              try simp only [Act.put, List.setIfInBounds_toArray, List.set_cons_zero, List.set_cons_succ, List.getElem_toArray, List.getElem_cons_zero, List.getElem_cons_succ]
              refine wpAnyH_take (i := 15) (v := ?_) rfl (by kernel_rfl) (by kernel_rfl) (by kernel_rfl) (fun _ _ _ h => h) (Or.inl ⟨by rfl, ?_⟩) (by assumption) ?_
              rotate_left
              · (intro w9 hS9; try simp only [List.getElem_toArray, List.getElem_cons_zero, List.getElem_cons_succ]
                 go_simp <;> rfl)
              try simp only [Act.put, List.setIfInBounds_toArray, List.set_cons_zero, List.set_cons_succ, List.getElem_toArray, List.getElem_cons_zero, List.getElem_cons_succ]
              refine wpAnyH_take (i := 16) (v := ?_) rfl (by kernel_rfl) (by kernel_rfl) (by kernel_rfl) (fun _ _ _ h => h) (Or.inl ⟨by rfl, ?_⟩) (by assumption) ?_
              rotate_left
              · (intro w9 hS9; try simp only [List.getElem_toArray, List.getElem_cons_zero, List.getElem_cons_succ]
                 go_simp <;> rfl)
              try simp only [Act.put, List.setIfInBounds_toArray, List.set_cons_zero, List.set_cons_succ, List.getElem_toArray, List.getElem_cons_zero, List.getElem_cons_succ]
              refine wpAnyH_take (i := 17) (v := ?_) rfl (by kernel_rfl) (by kernel_rfl) (by kernel_rfl) (fun _ _ _ h => h) (Or.inl ⟨by rfl, ?_⟩) (by assumption) ?_
              rotate_left
              · (intro w9 hS9; try simp only [List.getElem_toArray, List.getElem_cons_zero, List.getElem_cons_succ]
                 go_simp <;> rfl)
              try simp only [Act.put, List.setIfInBounds_toArray, List.set_cons_zero, List.set_cons_succ, List.getElem_toArray, List.getElem_cons_zero, List.getElem_cons_succ]
              refine wpAnyH_take (i := 18) (v := ?_) rfl (by kernel_rfl) (by kernel_rfl) (by kernel_rfl) (fun _ _ _ h => h) (Or.inl ⟨by rfl, ?_⟩) (by assumption) ?_
              rotate_left
              · (intro w9 hS9; try simp only [List.getElem_toArray, List.getElem_cons_zero, List.getElem_cons_succ]
                 go_simp <;> rfl)
              try simp only [Act.put, List.setIfInBounds_toArray, List.set_cons_zero, List.set_cons_succ, List.getElem_toArray, List.getElem_cons_zero, List.getElem_cons_succ]
              refine wpAnyH_take (i := 19) (v := ?_) rfl (by kernel_rfl) (by kernel_rfl) (by kernel_rfl) (fun _ _ _ h => h) (Or.inl ⟨by rfl, ?_⟩) (by assumption) ?_
              rotate_left
              · (intro w9 hS9; try simp only [List.getElem_toArray, List.getElem_cons_zero, List.getElem_cons_succ]
                 go_simp <;> rfl)
              try simp only [Act.put, List.setIfInBounds_toArray, List.set_cons_zero, List.set_cons_succ, List.getElem_toArray, List.getElem_cons_zero, List.getElem_cons_succ]
              refine wpAnyH_take (i := 20) (v := ?_) rfl (by kernel_rfl) (by kernel_rfl) (by kernel_rfl) (fun _ _ _ h => h) (Or.inl ⟨by rfl, ?_⟩) (by assumption) ?_
              rotate_left
              · (intro w9 hS9; try simp only [List.getElem_toArray, List.getElem_cons_zero, List.getElem_cons_succ]
                 go_simp <;> rfl)
              try simp only [Act.put, List.setIfInBounds_toArray, List.set_cons_zero, List.set_cons_succ, List.getElem_toArray, List.getElem_cons_zero, List.getElem_cons_succ]
              refine wpAnyH_take (i := 21) (v := ?_) rfl (by kernel_rfl) (by kernel_rfl) (by kernel_rfl) (fun _ _ _ h => h) (Or.inl ⟨by rfl, ?_⟩) (by assumption) ?_
              rotate_left
              · (intro w9 hS9; try simp only [List.getElem_toArray, List.getElem_cons_zero, List.getElem_cons_succ]
                 go_simp <;> rfl)
              try simp only [Act.put, List.setIfInBounds_toArray, List.set_cons_zero, List.set_cons_succ, List.getElem_toArray, List.getElem_cons_zero, List.getElem_cons_succ]
              refine wpAnyH_take (i := 22) (v := ?_) rfl (by kernel_rfl) (by kernel_rfl) (by kernel_rfl) (fun _ _ _ h => h) (Or.inl ⟨by rfl, ?_⟩) (by assumption) ?_
              rotate_left
              · (intro w9 hS9; try simp only [List.getElem_toArray, List.getElem_cons_zero, List.getElem_cons_succ]
                 go_simp <;> rfl)
              try simp only [Act.put, List.setIfInBounds_toArray, List.set_cons_zero, List.set_cons_succ, List.getElem_toArray, List.getElem_cons_zero, List.getElem_cons_succ]
              refine wpAnyH_take (i := 23) (v := ?_) rfl (by kernel_rfl) (by kernel_rfl) (by kernel_rfl) (fun _ _ _ h => h) (Or.inl ⟨by rfl, ?_⟩) (by assumption) ?_
              rotate_left
              · (intro w9 hS9; try simp only [List.getElem_toArray, List.getElem_cons_zero, List.getElem_cons_succ]
                 go_simp <;> rfl)
              try simp only [Act.put, List.setIfInBounds_toArray, List.set_cons_zero, List.set_cons_succ, List.getElem_toArray, List.getElem_cons_zero, List.getElem_cons_succ]
              refine wpAnyH_take (i := 24) (v := ?_) rfl (by kernel_rfl) (by kernel_rfl) (by kernel_rfl) (fun _ _ _ h => h) (Or.inl ⟨by rfl, ?_⟩) (by assumption) ?_
              rotate_left
              · (intro w9 hS9; try simp only [List.getElem_toArray, List.getElem_cons_zero, List.getElem_cons_succ]
                 go_simp <;> rfl)
              try simp only [Act.put, List.setIfInBounds_toArray, List.set_cons_zero, List.set_cons_succ, List.getElem_toArray, List.getElem_cons_zero, List.getElem_cons_succ]
              refine wpAnyH_take (i := 25) (v := ?_) rfl (by kernel_rfl) (by kernel_rfl) (by kernel_rfl) (fun _ _ _ h => h) (Or.inl ⟨by rfl, ?_⟩) (by assumption) ?_
              rotate_left
              · (intro w9 hS9; try simp only [List.getElem_toArray, List.getElem_cons_zero, List.getElem_cons_succ]
                 go_simp <;> rfl)
              try simp only [Act.put, List.setIfInBounds_toArray, List.set_cons_zero, List.set_cons_succ, List.getElem_toArray, List.getElem_cons_zero, List.getElem_cons_succ]
              refine wpAnyH_done (by kernel_rfl) ?_ _
              try simp only [Exit.then]
              clear hHeld
              go_wp2_with fail
              refine bodyPost_ret (v := .tuple #[.string cs, .bool ((cs.extract 0 t.size).toList == t.toList)]) (by simp [results, Tryz.results37, go_sem]) rfl ?_
              exact ⟨by rw [HFr.out, f2, f4, bytes_beq]; rfl, HB0.out⟩
        case pos =>
          have hkQ : k < Q.length := by rw [← HN.out]; exact hlt
          have d1 : decide ((k : Int) < (N : Int)) = true := by simp; exact hlt
          have d2 : decide (k < N) = true := by simp; exact hlt
          have j1 : (0 : Int) ≤ (k : Int) := by omega
          have j2 : (k : Int) < (N : Int) := by omega
          have w0 : IntKind.i64.wrap ((k : Int) + 1) = (k : Int) + 1 := IntWalk.i64_in _ (by omega)
          have H1 := hide (HCs.out k hkQ)
          have H2 := hide (HLs.out k hkQ)
          have hc1 := HCt.out k (by omega)
          have hc2 := HTl.out k hkQ
          obtain ⟨t0, t1, t2⟩ := HTx.out k hkQ
          obtain ⟨b, ob, hVA, _, hb, hc⟩ := flat_cells encSd_len HRq.out k Q[k] (by simp [hkQ]) (by omega)
          subst hVA
          obtain ⟨o, ho⟩ : ∃ o : Nat, Q[k].op = o := ⟨Q[k].op.toNat, by omega⟩
          have c1 : wr.cell? ⟨b, ob + k * 7 + 1, none⟩ = some (.int .i64 (o : Int)) := by rw [← ho]; exact hc 1 (by omega)
          rw [ho, show ((o : Int).toNat) = o by omega] at t2
          obtain ⟨ab, ao, hPA, hab, -, a1, -⟩ := HOpq.out wr HB.out o (by omega)
          subst hPA
          rw [← t2] at a1
          obtain ⟨-, -, -, p3⟩ := HPc.out wr HB.out
          have x1 : wr.cell? ⟨xg, 1, none⟩ = some (.int .i64 (q : Int)) := by rw [HL.out.cell]; rfl
          have o1 : (0 : Int) ≤ (o : Int) := by omega
          have o2 : (o : Int) < (vn : Int) := by omega
          obtain ⟨tx, htx⟩ : ∃ tx, tx = txtS P Q[k] := ⟨_, rfl⟩
          obtain ⟨cs, hcs⟩ : ∃ cs, cs = catS P (Q.take k) := ⟨_, rfl⟩
          rw [← htx] at a1 hc2 H1
          rw [← hcs] at hc1 H1 H2 ⊢
          have hsum : cs.size + tx.size ≤ 9223372036854775807 := by omega
          clear hc t0 t1 t2 ho htx hcs hc1 hc2
          go_upto_region 9 with fail
          go_quiet (fail)
          generalize hV0 : World.drewN wr _ = V7
          have HB7 := hide (show Below w.heap.size w V7 by rw [← hV0]; exact ⟨HB.out.os, HB.out.tape, HB.out.output, HB.out.size, HB.out.block⟩)
          have HL7 := hide (show Blk V7 xg 92 #[.int .i64 lwho, .int .i64 (q : Int), .int .i64 lstart, .slice LA i0 lc, .slice LC c0 c3, .slice LB s0 ld, .string lread, .string t, .bool leof, .int .i64 lstatus] by rw [← hV0]; exact HL.out.drewN _)
          have HR7 := hide (show Rd V7 NoBlk (some ⟨b, ob, none⟩) (flat encSd Q) by rw [← hV0]; exact HRq.out.drewN _)
          clear hV0 x1 c1 a1 p3
          go_wp2_with fail
          go_roundw
          case rel => exact ⟨k + 1, by omega, by rw [H1.out], by rw [H2.out], by go_num, HB7, HL7, HR7⟩
          case measure => simp [intOf]; omega
end Go.Proofs.YtdmdohjdmnmabaaGreat
