/- The document's waits: all of them. Conditions: those of each theorem. -/
import Derived.Test.YtdmdohjdmnmabaaGreatQw47
namespace Go.Proofs.YtdmdohjdmnmabaaGreat
open Go.RowKit
set_option linter.unusedVariables false
set_option linter.unusedSimpArgs false

theorem waitsP_doc {v : PrV} (l : List Ev) (id : Int) (hg : goodM (prM v) = true) : waitsP l v id = outD (prM v) (whoL id (lifeGo id 0 l)) (lifeO (lifeGo id 0 l)).steps (placesM (prM v) (lifeO (lifeGo id 0 l)).start (lifeO (lifeGo id 0 l)).steps (lifeO (lifeGo id 0 l)).steps.length) (placesM (prM v) (lifeO (lifeGo id 0 l)).start (lifeO (lifeGo id 0 l)).steps (lifeO (lifeGo id 0 l)).steps.length).length := by
 unfold waitsP outD
 rw [lifeW_doc _ _ _ _ hg, docW_places, List.take_length]
theorem nth_atL {T : List (Int × Int × Nat)} {j : Nat} (h : j < T.length) : nth (atL T) j = T[j].1 := by rw [nth_of_lt (by simpa [atL] using h)]; simp [atL]
theorem nth_whenL {T : List (Int × Int × Nat)} {j : Nat} (h : j < T.length) : nth (whenL T) j = T[j].2.1 := by rw [nth_of_lt (by simpa [whenL] using h)]; simp [whenL]
theorem nth_behL {T : List (Int × Int × Nat)} {j : Nat} (h : j < T.length) : nth (behL T) j = T[j].2.2 := by rw [nth_of_lt (by simpa [behL] using h)]; simp [behL]
theorem flat_oneR35 (l : List WtM) : ∀ u ∈ flat encWt l, u.oneCell' = true := by
 intro u hu
 unfold flat at hu
 rw [List.mem_flatten] at hu
 obtain ⟨r, hr, hu⟩ := hu
 obtain ⟨a, _, rfl⟩ := List.mem_map.1 hr
 exact encWt_one a u hu
set_option maxRecDepth 100000 in
set_option maxHeartbeats 51200000 in
theorem refOf35_c (SA : Option Addr) (sc : Nat) (Ps : List PrV) (A : Option Addr) (c : Nat) (l : List Ev) (w : World) (hs : PrsRd w NoBlk SA Ps) (hsn : Ps.length ≤ maxLen) (hsz : ∀ v ∈ Ps, PrSz v) (hnn : ∀ v ∈ Ps, PrNn v) (hr : Rd w NoBlk A (flat encEv l)) (hn : l.length ≤ 900) (hx : ∀ x ∈ l, x.s.size ≤ 100) (htk : TkOk l) :
 Calls Tryz.prog 25 #[.slice SA Ps.length sc, .slice A l.length c] w fun e w' => (∃ v, e = .returned v ∧ w'.ownsRow w.heap.size 102 7 v (waitsM Ps l).length (flat encWt (waitsM Ps l))) ∧ Below w.heap.size w w' := by
 obtain ⟨il, hil, hlz0, hlz1, hlz2⟩ := info_parts Tryz.infoRWt
 obtain ⟨ii, hii, hiz0, hiz1, hiz2⟩ := info_parts Tryz.infoI35
 obtain ⟨ij, hij, hjz0, hjz1, hjz2⟩ := info_parts Tryz.infoL35
 have hsn' : Ps.length ≤ 9223372036854775807 := hsn
 have HIds := hide (fun (w' : World) (k : Below w.heap.size w w') => refIds_c A c l w' (hr.below k) (by omega))
 have HOf := hide (fun (id : Int) (w' : World) (k : Below w.heap.size w w') => refOfN_c A c l id w' (hr.below k) (by omega) hx)
 have HPr := hide (fun (w' : World) (k : Below w.heap.size w w') (i : Nat) (hi : i < Ps.length) => pr_cells (hs.1.below k) i hi)
 have HGood := hide (fun (w' : World) (k : Below w.heap.size w w') (i : Nat) (hi : i < Ps.length) => refGood_c (prAt Ps i).s (prAt Ps i).d (prAt Ps i).j (prAt Ps i).PA (prAt Ps i).pc (prAt Ps i).L w' ⟨((hs.2 _ (prAt_mem hi)).1).below k, fun v hv => ((hs.2 _ (prAt_mem hi)).2 v hv).below k⟩ (hsz _ (prAt_mem hi)).1 (hsz _ (prAt_mem hi)).2.1 (hsz _ (prAt_mem hi)).2.2)
 have HNx := hide (fun (st sa sw sr sn ss : Int) (w' : World) (k : Below w.heap.size w w') (i : Nat) (hi : i < Ps.length) => refNext_c (prAt Ps i).s (prAt Ps i).d (prAt Ps i).j (prAt Ps i).PA (prAt Ps i).pc (prAt Ps i).L st sa sw sr sn ss w' ⟨((hs.2 _ (prAt_mem hi)).1).below k, fun v hv => ((hs.2 _ (prAt_mem hi)).2 v hv).below k⟩ (hsz _ (prAt_mem hi)).1 (hsz _ (prAt_mem hi)).2.1 (hsz _ (prAt_mem hi)).2.2)
 have HOp := hide (fun (w' : World) (k : Below w.heap.size w w') (i : Nat) (hi : i < Ps.length) (j : Nat) (hj : j < (prAt Ps i).L.length) => op_cells (((hs.2 _ (prAt_mem hi)).1).below k) j hj)
 have HNn := hide (fun (i : Nat) (hi : i < Ps.length) (j : Nat) (hj : j < (prAt Ps i).L.length) => hnn _ (prAt_mem hi) _ (opAt_mem hj))
 have HLz := hide (fun (i : Nat) (hi : i < Ps.length) => (show (prAt Ps i).L.length ≤ 9223372036854775807 from (hsz _ (prAt_mem hi)).1))
 have HTk := hide (fun id => lifeO_tk id l htk)
 have HSl := hide (fun id => lifeO_steps id l hx)
 have hile := ids_le l
 have hpl := per_len Ps l (waitsP l) (l.length + 1) (fun v id => waits_le l hx v id)
 have HLe := hide (fun v id => waits_le l hx v id)
 have HPm := hide (show waitsM Ps l = perM Ps l (waitsP l) (idsL l) from rfl)
 obtain ⟨N, hN⟩ : ∃ N, N = (idsL l).length := ⟨_, rfl⟩
 obtain ⟨n, hnl⟩ : ∃ n, n = l.length := ⟨_, rfl⟩
 obtain ⟨np, hnp⟩ : ∃ np, np = Ps.length := ⟨_, rfl⟩
 have HN := hide hN
 have Hnl := hide hnl
 have Hnp := hide hnp
 obtain ⟨TT, hT⟩ : ∃ TT, TT = waitsM Ps l := ⟨_, rfl⟩
 rw [← hT] at HPm ⊢
 rw [← hN] at HIds hile
 rw [← hnl] at HIds HOf hn hile hpl HLe HSl ⊢
 rw [← hnp] at HPr HGood HNx HOp HNn HLz hsn' ⊢
 have HPL := hide hpl
 clear hs hsn hsz hnn hr hx htk hN hnl hnp hpl hT
 obtain ⟨W2, hW2⟩ : ∃ W2, W2 = w.alloc (.cells #[] 102) := ⟨_, rfl⟩
 have HB2 := hide (show Below w.heap.size w W2 by rw [hW2]; exact below_alloc _ _)
 have HO2 := hide (show W2.ownsRow w.heap.size 102 7 (.slice (some ⟨w.heap.size, 0, none⟩) 0 0) 0 (flat encWt []) by rw [hW2]; simpa [flat] using own_empty' (w := w) (base := w.heap.size) (g := w.heap.size) (e := 102) (size := 7) (by omega) (by omega))
 have HWW := hide hW2
 clear hW2
 go_enter Tryz.func25, Tryz.ntmps25
 go_wp2_with fail
 change Calls _ _ _ (w.alloc (.cells #[] 102)) _
 rw [← HWW.out]
 refine (HIds.out _ HB2.out).mono ?_
 rintro e w1 ⟨hb1, A1, c1, rfl, hr1⟩
 have HB1 := hide (HB2.out.trans (hb1.mono HB2.out.size))
 have HEm := hide (show Blk w1 w.heap.size 102 #[] from (show Blk W2 w.heap.size 102 #[] by rw [HWW.out]; exact Blk.new _ _ _).below hb1)
 obtain ⟨M1, hM1⟩ : ∃ M1 : Nat → Prop, M1 = (fun b => b = w.heap.size ∨ w1.heap.size ≤ b) := ⟨_, rfl⟩
 have HR1 := hide (show Rd w1 M1 A1 (flat encI (idsL l)) by
  rcases rd_not HEm.out hr1 with h | ⟨b, o, hA, hm, hb, hc⟩
  ·exact Or.inl h
  ·refine Or.inr ⟨b, o, hA, ?_, hb, hc⟩
   rw [hM1]
   rintro (h | h)
   ·exact hm h
   ·omega)
 have HOn1 := hide (show ∀ kk, (Value.slice (some ⟨w.heap.size, 0, none⟩) 0 0).ownBlock = some kk → M1 kk from fun kk hk => by
  rw [hM1]
  have hk2 : w.heap.size = kk := by simpa [Value.ownBlock] using hk
  exact Or.inl hk2.symm)
 have HMn := hide (show ∀ kk, w1.heap.size ≤ kk → M1 kk from fun kk hk => by rw [hM1]; exact Or.inr hk)
 have HO1 := hide (own_only HO2.out (Only.of_below hb1 NoBlk) (fun _ _ h => h.elim))
 have HW1 := hide (Nat.le_refl w1.heap.size)
 clear hb1 hr1 hM1
 go_wp2_with fail
 go_loopw [5, 7] (fun v i wr => ∃ (k : Nat) (out : List WtM), k ≤ N ∧ i = .int .i64 k ∧ Hid (perM Ps l (waitsP l) ((idsL l).take k) = out) ∧ Hid (wr.ownsRow w.heap.size 102 7 v out.length (flat encWt out)) ∧ Hid (Below w.heap.size w wr) ∧ Hid (Rd wr M1 A1 (flat encI (idsL l))) ∧ Hid (∀ kk, v.ownBlock = some kk → M1 kk) ∧ Hid (w1.heap.size ≤ wr.heap.size)) (fun _ i _ => N - (intOf i).toNat)
 case atStart => exact ⟨0, [], Nat.zero_le _, rfl, hide (by simp [perM]), HO1, HB1, HR1, HOn1, HW1⟩
 case round =>
  clear HO1 HB1 HR1 HOn1 HW1
  obtain ⟨k, out, hk, rfl, hout, HOw, HB, HR, HOn, HSz⟩ := hrel
  obtain ⟨OA, oc, rfl, hoc⟩ := own_cap HOw.out
  have hol : out.length ≤ 1000000 := by
   have h1 := HPL.out ((idsL l).take k)
   rw [hout.out, List.length_take, ← HN.out] at h1
   have h2 : min k N ≤ 900 := by omega
   have h3 : min k N * (n + 1) ≤ 900 * 901 := Nat.mul_le_mul h2 (by omega)
   omega
  obtain ⟨m, hm⟩ : ∃ m, m = out.length := ⟨_, rfl⟩
  rw [← hm] at HOw hol hoc HOn ⊢
  have Hm := hide hm
  clear hm
  by_cases hlt : k < N
  case neg =>
   obtain rfl : k = N := by omega
   have hd : decide ((k : Int) < (k : Int)) = false := by simp
   have hd2 : decide (k < k) = false := by simp
   have HF := hide (show TT = out by rw [HPm.out, ← hout.out, HN.out, List.take_length])
   go_wp2_with fail
   go_ret
   rw [HF.out, ← Hm.out]
   exact ⟨⟨_, rfl, HOw.out⟩, HB.out⟩
  case pos =>
   have HF := hide (per_succ Ps l (waitsP l) (idsL l) k (by rw [← HN.out]; exact hlt))
   obtain ⟨b, oo, rfl, hb, g0⟩ := id_cell HR.out k (by rw [← HN.out]; exact hlt)
   obtain ⟨id, hid⟩ : ∃ id, id = nth (idsL l) k := ⟨_, rfl⟩
   rw [← hid] at g0 HF
   have d1 : decide ((k : Int) < (N : Int)) = true := by simp; exact hlt
   have d2 : decide (k < N) = true := by simp; exact hlt
   have j1 : (0 : Int) ≤ (k : Int) := by omega
   have j2 : (k : Int) < (N : Int) := by omega
   have w0 : IntKind.i64.wrap ((k : Int) + 1) = (k : Int) + 1 := IntWalk.i64_in _ (by omega)
   have HOfr := hide (HOf.out id wr HB.out)
   have HLe1 := hide (fun v => HLe.out v id)
   have HDoc := hide (fun (v : PrV) (hg : goodM (prM v) = true) => waitsP_doc (v := v) l id hg)
   obtain ⟨htk1, htk2⟩ := HTk.out id
   have hsl := HSl.out id
   clear hid
   go_wp2_with fail
   refine HOfr.out.mono ?_
   intro e w3 he
   obtain ⟨hb3, LA, lc, LB, ld, LC, c0, c3, rfl, hst3⟩ := ret_new31 he
   obtain ⟨sn, hsn2⟩ : ∃ sn, sn = scrN l id := ⟨_, rfl⟩
   have hsn3 : (lifeO (lifeGo id 0 l)).script = sn := hsn2.symm
   rw [hsn3]
   obtain ⟨i0, hi0⟩ : ∃ i0, i0 = (lifeO (lifeGo id 0 l)).ins.length := ⟨_, rfl⟩
   obtain ⟨S, hS⟩ : ∃ S, S = (lifeO (lifeGo id 0 l)).steps := ⟨_, rfl⟩
   obtain ⟨lstart, hls⟩ : ∃ t, t = (lifeO (lifeGo id 0 l)).start := ⟨_, rfl⟩
   obtain ⟨lwho, hlw⟩ : ∃ t, t = whoL id (lifeGo id 0 l) := ⟨_, rfl⟩
   rw [← hS] at hst3 htk1 hsl
   rw [← hls] at htk2
   rw [← hS, ← hls, ← hlw] at HDoc
   rw [← hi0, ← hS, ← hls, ← hlw]
   have HTk1 := hide htk1
   generalize (lifeO (lifeGo id 0 l)).read = lread
   generalize (lifeO (lifeGo id 0 l)).taken = ltaken
   generalize (lifeO (lifeGo id 0 l)).eof = leof
   generalize (lifeO (lifeGo id 0 l)).status = lstatus
   generalize (lifeGo id 0 l).isSome = lis
   obtain ⟨sl, hsl2⟩ : ∃ sl, sl = S.length := ⟨_, rfl⟩
   rw [← hsl2] at hsl HDoc ⊢
   have Hsl := hide hsl2
   have HB3 := hide (HB.out.trans (hb3.mono HB.out.size))
   have HSt3 := hide (show Rd w3 (fun k => (Value.slice OA m oc).ownBlock = some k) LB (flat encStp S) from hst3.mono (fun k hk => own_ltF HOw.out k hk))
   have HOw3 := hide (own_bel HOw.out hb3)
   have HR3 := hide (HR.out.below hb3)
   have HSz3 := hide (Nat.le_trans HSz.out hb3.size)
   clear he hb3 hst3 hi0 hS hls hlw hsl2 hsn3 g0 HOfr HOw HB HR htk1
   have HSB := hide (show scrB Ps l id = ((decide (0 ≤ sn) && decide (sn < Ps.length)) && goodM (prM (prAt Ps sn.toNat))) by unfold scrB; rw [← hsn2])
   rw [← Hnp.out] at HSB
   rw [← hsn2] at HF
   clear hsn2
   go_upto_region 6 with fail
   obtain ⟨W4, hW4⟩ : ∃ W4, W4 = w3.alloc (.cells #[.int .i64 lwho, .int .i64 sn, .int .i64 lstart, .slice LA i0 lc, .slice LC c0 c3, .slice LB sl ld, .string lread, .string ltaken, .bool leof, .int .i64 lstatus] 92) := ⟨_, rfl⟩
   obtain ⟨xg, hxg⟩ : ∃ xg, xg = w3.heap.size := ⟨_, rfl⟩
   have hb4 : Below w3.heap.size w3 W4 := by rw [hW4]; exact below_alloc _ _
   have HLf := hide (show Blk W4 xg 92 #[.int .i64 lwho, .int .i64 sn, .int .i64 lstart, .slice LA i0 lc, .slice LC c0 c3, .slice LB sl ld, .string lread, .string ltaken, .bool leof, .int .i64 lstatus] by rw [hW4, hxg]; exact Blk.new _ _ _)
   have HB4 := hide (HB3.out.trans (hb4.mono HB3.out.size))
   have HOw4 := hide (own_bel HOw3.out hb4)
   have HR4 := hide (HR3.out.below hb4)
   have HSt4 := hide (HSt3.out.below hb4)
   have HSz4 := hide (Nat.le_trans HSz3.out hb4.size)
   rw [← hW4, ← hxg]
   clear hW4 hxg hb4 HB3 HOw3 HR3 HSt3
   have x1 : W4.cell? ⟨xg, 1, none⟩ = some (.int .i64 sn) := by rw [HLf.out.cell]; rfl
   obtain ⟨nb, hnb⟩ : ∃ nb, nb = !scrB Ps l id := ⟨_, rfl⟩
   have HNb := hide hnb
   clear hnb
   go_cut [57] from 39 to 56 (fun v wx => v = .bool nb ∧ Hid (Below W4.heap.size W4 wx))
   case first =>
    by_cases hs0 : sn < 0
    ·have b0 : decide (sn < (0 : Int)) = true := by simp; omega
     have HQ := hide (show scrB Ps l id = false by rw [HSB.out, show decide ((0 : Int) ≤ sn) = false by simp; omega]; rfl)
     clear hs0
     go_wp2_with fail
     go_meet
     exact ⟨by rw [HNb.out, HQ.out]; rfl, hide (Below.refl _ _)⟩
    ·have b0 : decide (sn < (0 : Int)) = false := by simp; omega
     by_cases hs1 : (np : Int) ≤ sn
     ·have b1 : decide ((np : Int) ≤ sn) = true := by simp; omega
      have HQ := hide (show scrB Ps l id = false by rw [HSB.out, show decide (sn < (np : Int)) = false by simp; omega]; simp)
      clear hs0 hs1
      go_wp2_with fail
      go_meet
      exact ⟨by rw [HNb.out, HQ.out]; rfl, hide (Below.refl _ _)⟩
     ·obtain ⟨q, hq⟩ : ∃ q : Nat, sn = q := ⟨sn.toNat, by omega⟩
      subst hq
      have hqn : q < np := by omega
      have b1 : decide ((np : Int) ≤ (q : Int)) = false := by simp; omega
      have b2 : decide (np ≤ q) = false := by simp; omega
      have hqt : ((q : Int).toNat) = q := by omega
      rw [hqt] at HSB
      have HQ := hide (show scrB Ps l id = goodM (prM (prAt Ps q)) by rw [HSB.out, show decide ((q : Int) < (np : Int)) = true by simp; omega, show decide ((0 : Int) ≤ (q : Int)) = true by simp]; rfl)
      have HGq := hide (fun (w' : World) (k : Below w.heap.size w w') => HGood.out w' k q hqn)
      obtain ⟨pb, po, rfl, hpb, p0, p1, p2, p3⟩ := HPr.out W4 HB4.out q hqn
      obtain ⟨gd, hgd⟩ : ∃ gd, gd = goodM (prM (prAt Ps q)) := ⟨_, rfl⟩
      have hgd' : goodM (progM (prAt Ps q).s (prAt Ps q).d (prAt Ps q).j (prAt Ps q).L) = gd := hgd.symm
      rw [hgd'] at HGq
      rw [← hgd] at HQ
      clear hgd hgd' hs0 hs1
      obtain ⟨v, hv⟩ : ∃ v, v = prAt Ps q := ⟨_, rfl⟩
      rw [← hv] at p0 p1 p2 p3 HGq
      obtain ⟨vs, vd, vj, vPA, vpc, vL⟩ := v
      obtain ⟨vn, hvn⟩ : ∃ vn, vn = vL.length := ⟨_, rfl⟩
      simp only at p0 p1 p2 p3 HGq
      rw [← hvn] at p3 HGq
      clear hvn hv
      have i1 : (0 : Int) ≤ (q : Int) := by omega
      have i2 : (q : Int) < (np : Int) := by omega
      go_wp2_with fail
      refine (HGq.out _ HB4.out).mono ?_
      rintro e w5 ⟨rfl, ho5⟩
      have HO5 := hide ho5
      clear ho5
      go_wp2_with fail
      go_meet
      exact ⟨by rw [HNb.out, HQ.out], HO5⟩
   case rest =>
    obtain ⟨rfl, hox⟩ := hcut
    clear x1
    have HLx := hide (HLf.out.below hox.out)
    have HBx := hide (HB4.out.trans (hox.out.mono HB4.out.size))
    have HOwx := hide (own_bel HOw4.out hox.out)
    have HRx := hide (HR4.out.below hox.out)
    have HStx := hide (HSt4.out.below hox.out)
    have HSzx := hide (Nat.le_trans HSz4.out hox.out.size)
    clear HLf HB4 HOw4 HR4 HSt4 hox
    cases nb with
    | true =>
     have hsb : scrB Ps l id = false := by have := HNb.out; simpa using this
     have HF2 := hide (show perM Ps l (waitsP l) (List.take (k + 1) (idsL l)) = out by rw [HF.out, hsb, hout.out]; simp)
     clear hsb
     go_wp2_with fail
     go_roundw
     case rel => exact ⟨k + 1, out, by omega, by go_num, HF2, by rw [← Hm.out]; exact HOwx, HBx, HRx, HOn, HSzx⟩
     case measure => simp [intOf]; omega
    | false =>
     have hsb : scrB Ps l id = true := by have := HNb.out; simpa using this
     rw [hsb] at HSB
     have hh := HSB.out
     have hsn0 : (0 ≤ sn ∧ sn < np) ∧ goodM (prM (prAt Ps sn.toNat)) = true := by
      have := hh.symm
      simp only [Bool.and_eq_true, decide_eq_true_eq] at this
      exact this
     have HF2 := hide (show perM Ps l (waitsP l) (List.take (k + 1) (idsL l)) = out ++ waitsP l (prAt Ps sn.toNat) id by rw [HF.out, hsb, hout.out]; simp)
     clear hsb hh HSB
     obtain ⟨q, hq⟩ : ∃ q : Nat, sn = q := ⟨sn.toNat, by omega⟩
     subst hq
     have hqn : q < np := by omega
     have hqt : ((q : Int).toNat) = q := by omega
     rw [hqt] at HF2 hsn0
     have hgq := hsn0.2
     obtain ⟨pb, po, hSA, hpb, p0, p1, p2, p3⟩ := HPr.out _ HBx.out q hqn
     subst hSA
     have HNxq := hide (fun (st sa sw sr sn ss : Int) (w' : World) (k : Below w.heap.size w w') => HNx.out st sa sw sr sn ss w' k q hqn)
     have HOpq := hide (fun (w' : World) (k : Below w.heap.size w w') (j : Nat) => HOp.out w' k q hqn j)
     have HNnq := hide (fun (j : Nat) => HNn.out q hqn j)
     have hvz := HLz.out q hqn
     have hll := HLe1.out (prAt Ps q)
     have hdoc := HDoc.out (prAt Ps q) hgq
     obtain ⟨v, hv⟩ : ∃ v, v = prAt Ps q := ⟨_, rfl⟩
     rw [← hv] at p0 p1 p2 p3 HNxq HOpq HNnq HF2 hll hvz hdoc
     obtain ⟨vs, vd, vj, vPA, vpc, vL⟩ := v
     obtain ⟨P, hP⟩ : ∃ P, P = progM vs vd vj vL := ⟨_, rfl⟩
     have hP2 : prM ⟨vs, vd, vj, vPA, vpc, vL⟩ = P := hP.symm
     rw [hdoc, hP2] at HF2 hll
     simp only at p0 p1 p2 p3 HNxq HOpq HNnq hvz
     rw [← hP] at HNxq
     have HBgn := hide (show ∀ op, beginB P op = ((decide (0 ≤ op) && decide (op < vL.length)) && decide (((vL.map (·.o)).getD op.toNat opM0).kind = 2)) from fun op => by unfold beginB; rw [hP]; unfold progM; simp only [List.length_map])
     have HBgw := hide (show ∀ id op now, beginB P op = true → beginW P id op now = ⟨id, op, now, untilM now ((vL.map (·.o)).getD op.toNat opM0).n, false, 0, 0⟩ from fun id op now h => by unfold beginW; rw [if_pos h, hP]; rfl)
     have HG := hide (fun (i : Nat) (hi : i < vL.length) => show (vL.map (·.o)).getD i opM0 = (opAt vL i).o from by simp [List.getD, opAt, hi])
     have HPlc := hide (fun (k : Nat) => show placesM P lstart S (k + 1) = placesM P lstart S k ++ plS P S k from rfl)
     have HPls := hide (fun (k : Nat) => show plS P S k = if 0 ≤ NextM P (stAt S k) then [(NextM P (stAt S k), (stAt S k).tick, k + 1)] else [] from rfl)
     have HPln := hide (fun k => places_len P lstart S k)
     have HPok := hide (places_ok P lstart S htk2 HTk1.out S.length (Nat.le_refl _))
     obtain ⟨vn, hvn⟩ : ∃ vn, vn = vL.length := ⟨_, rfl⟩
     rw [← hvn] at p3 HNxq HOpq HNnq hvz HBgn HG
     clear hv hvn hsn0 hgq hdoc hP hP2
     have i1 : (0 : Int) ≤ (q : Int) := by omega
     have i2 : (q : Int) < (np : Int) := by omega
     have x1 : wc.cell? ⟨xg, 1, none⟩ = some (.int .i64 (q : Int)) := by rw [HLx.out.cell]; rfl
     go_upto_region 8 with fail
     obtain ⟨W7, hW7⟩ : ∃ W7, W7 = wc.alloc (.cells #[.string vs, .int .i64 vd, .int .i64 vj, .slice vPA vn vpc] 24) := ⟨_, rfl⟩
     obtain ⟨pg, hpg⟩ : ∃ pg, pg = wc.heap.size := ⟨_, rfl⟩
     have hb7 : Below wc.heap.size wc W7 := by rw [hW7]; exact below_alloc _ _
     have HP7 := hide (show Blk W7 pg 24 #[.string vs, .int .i64 vd, .int .i64 vj, .slice vPA vn vpc] by rw [hW7, hpg]; exact Blk.new _ _ _)
     have HL7 := hide (HLx.out.below hb7)
     have HB7 := hide (HBx.out.trans (hb7.mono HBx.out.size))
     have HOw7 := hide (own_bel HOwx.out hb7)
     have HR7 := hide (HRx.out.below hb7)
     have HSt7 := hide (HStx.out.below hb7)
     have HSz7 := hide (Nat.le_trans HSzx.out hb7.size)
     rw [← hW7, ← hpg]
     clear hW7 hpg hb7 HLx HBx HOwx HRx HStx HSzx x1 p0 p1 p2 p3 hpb
     go_cut [11, 12, 13] from 63 to 67 (fun av wv bv wx => Hid (AWB W7 wx av wv bv (atL (placesM P lstart S 0)) (whenL (placesM P lstart S 0)) (behL (placesM P lstart S 0))))
     case first =>
      obtain ⟨V0, hV0⟩ : ∃ V9, V9 = W7.drew := ⟨_, rfl⟩
      have K0 := hide (show Below W7.heap.size W7 V0 by rw [hV0]; exact below_drew' (Below.refl _ _))
      have HLs := hide (show ∀ V, Below W7.heap.size W7 V → V.cell? ⟨xg, 2, none⟩ = some (.int .i64 lstart) from fun V h => by rw [(HL7.out.below h).cell]; rfl)
      refine wp_region_held (S := fun w' => w'.cell? ⟨xg, 2, none⟩ = some (.int .i64 lstart)) (by kernel_rfl) ?_
      change wpAnyH _ _ _ _ _ _ _ _ W7.drew
      have hHeld : (fun w' => w'.cell? ⟨xg, 2, none⟩ = some (.int .i64 lstart)) W7.drew := (by rw [← hV0]; exact HLs.out V0 K0.out)
      rw [← hV0] at hHeld ⊢
      simp only [List.size_toArray, List.length_cons, List.length_nil, Nat.zero_add, Nat.reduceAdd]
      clear hV0
      refine wpAnyH_take (i := 1) (v := ?_) rfl (by kernel_rfl) (by kernel_rfl) (by kernel_rfl) (fun _ _ _ h => h) (Or.inl ⟨by rfl, ?_⟩) (by assumption) ?_
      rotate_left
      ·(intro w9 hS9; (try simp only [List.getElem_toArray, List.getElem_cons_zero, List.getElem_cons_succ]); go_simp <;> rfl)
      try simp only [Act.put, List.setIfInBounds_toArray, List.set_cons_zero, List.set_cons_succ, List.getElem_toArray, List.getElem_cons_zero, List.getElem_cons_succ]
      refine wpAnyH_take (i := 2) (v := ?_) rfl (by kernel_rfl) (by kernel_rfl) (by kernel_rfl) (fun _ _ _ h => h) (Or.inl ⟨by rfl, ?_⟩) (by assumption) ?_
      rotate_left
      ·(intro w9 hS9; (try simp only [List.getElem_toArray, List.getElem_cons_zero, List.getElem_cons_succ]); go_simp <;> rfl)
      try simp only [Act.put, List.setIfInBounds_toArray, List.set_cons_zero, List.set_cons_succ, List.getElem_toArray, List.getElem_cons_zero, List.getElem_cons_succ]
      refine rdy3 0 3 4 (by kernel_rfl) rfl rfl rfl (fun K hK => ?_) (fun K hK => ?_) (fun K hK => ?_)
      ·refine step_build1 rfl (.const (.int .i64 0)) 86 3 rfl ii Tryz.underlying86 hii hiz0 hiz1 0 (by rfl) ?_
       intro V1 g1 E1 B1 O1
       have K1 := hide (K0.out.trans (O1.out.mono K0.out.size))
       have G1 := hide (show W7.heap.size ≤ g1 by rw [← E1.out]; exact K0.out.size)
       refine hK.out _ _ (HLs.out _ K1.out) (fun hHeld => ?_)
       clear hK K
       try simp only [Act.put, List.setIfInBounds_toArray, List.set_cons_zero, List.set_cons_succ, List.getElem_toArray, List.getElem_cons_zero, List.getElem_cons_succ]
       refine wpAnyH_take (i := 5) (v := ?_) rfl (by kernel_rfl) (by kernel_rfl) (by kernel_rfl) (fun _ _ _ h => h) (Or.inl ⟨by rfl, ?_⟩) (by assumption) ?_
       rotate_left
       ·(intro w9 hS9; (try simp only [List.getElem_toArray, List.getElem_cons_zero, List.getElem_cons_succ]); go_simp <;> rfl)
       try simp only [Act.put, List.setIfInBounds_toArray, List.set_cons_zero, List.set_cons_succ, List.getElem_toArray, List.getElem_cons_zero, List.getElem_cons_succ]
       refine rdy2 3 4 (by kernel_rfl) rfl rfl (fun K hK => ?_) (fun K hK => ?_)
       ·refine step_build1 rfl (.tmp 65) 103 2 rfl ij Tryz.underlying103 hij hjz0 hjz1 lstart (by rfl) ?_
        intro V2 g2 E2 B2 O2
        have K2 := hide (K1.out.trans (O2.out.mono K1.out.size))
        have G2 := hide (show W7.heap.size ≤ g2 by rw [← E2.out]; exact K1.out.size)
        refine hK.out _ _ (HLs.out _ K2.out) (fun hHeld => ?_)
        clear hK K
        try simp only [Act.put, List.setIfInBounds_toArray, List.set_cons_zero, List.set_cons_succ, List.getElem_toArray, List.getElem_cons_zero, List.getElem_cons_succ]
        refine wpAnyH_take (i := 6) (v := ?_) rfl (by kernel_rfl) (by kernel_rfl) (by kernel_rfl) (fun _ _ _ h => h) (Or.inl ⟨by rfl, ?_⟩) (by assumption) ?_
        rotate_left
        ·(intro w9 hS9; (try simp only [List.getElem_toArray, List.getElem_cons_zero, List.getElem_cons_succ]); go_simp <;> rfl)
        try simp only [Act.put, List.setIfInBounds_toArray, List.set_cons_zero, List.set_cons_succ, List.getElem_toArray, List.getElem_cons_zero, List.getElem_cons_succ]
        refine rdy1 4 (by kernel_rfl) rfl (fun K hK => ?_)
        refine step_build1 rfl (.const (.int .i64 0)) 86 3 rfl ii Tryz.underlying86 hii hiz0 hiz1 0 (by rfl) ?_
        intro V3 g3 E3 B3 O3
        have K3 := hide (K2.out.trans (O3.out.mono K2.out.size))
        have G3 := hide (show W7.heap.size ≤ g3 by rw [← E3.out]; exact K2.out.size)
        refine hK.out _ _ (HLs.out _ K3.out) (fun hHeld => ?_)
        clear hK K
        try simp only [Act.put, List.setIfInBounds_toArray, List.set_cons_zero, List.set_cons_succ, List.getElem_toArray, List.getElem_cons_zero, List.getElem_cons_succ]
        refine wpAnyH_take (i := 7) (v := ?_) rfl (by kernel_rfl) (by kernel_rfl) (by kernel_rfl) (fun _ _ _ h => h) (Or.inl ⟨by rfl, ?_⟩) (by assumption) ?_
        rotate_left
        ·(intro w9 hS9; (try simp only [List.getElem_toArray, List.getElem_cons_zero, List.getElem_cons_succ]); go_simp <;> rfl)
        try simp only [Act.put, List.setIfInBounds_toArray, List.set_cons_zero, List.set_cons_succ, List.getElem_toArray, List.getElem_cons_zero, List.getElem_cons_succ]
        refine wpAnyH_done (by kernel_rfl) ?_ _
        try simp only [Exit.then]
        clear hHeld
        go_wp2_with fail
        go_meet
        refine hide ⟨K3.out, own_blk1 ((B1.out.below O2.out).below O3.out) G1.out, own_blk1 (B2.out.below O3.out) G2.out, own_blk1 B3.out G3.out, fun g h1 h2 => ?_⟩
        have h3 : g1 = g := by simpa [Value.ownBlock] using h1
        have h4 : g3 = g := by simpa [Value.ownBlock] using h2
        have h5 := (show Blk V2 g1 3 _ from (B1.out.below O2.out)).lt
        have h6 := E3.out
        omega
       ·refine step_build1 rfl (.const (.int .i64 0)) 86 3 rfl ii Tryz.underlying86 hii hiz0 hiz1 0 (by rfl) ?_
        intro V4 g4 E4 B4 O4
        have K4 := hide (K1.out.trans (O4.out.mono K1.out.size))
        have G4 := hide (show W7.heap.size ≤ g4 by rw [← E4.out]; exact K1.out.size)
        refine hK.out _ _ (HLs.out _ K4.out) (fun hHeld => ?_)
        clear hK K
        try simp only [Act.put, List.setIfInBounds_toArray, List.set_cons_zero, List.set_cons_succ, List.getElem_toArray, List.getElem_cons_zero, List.getElem_cons_succ]
        refine rdy1 3 (by kernel_rfl) rfl (fun K hK => ?_)
        refine step_build1 rfl (.tmp 65) 103 2 rfl ij Tryz.underlying103 hij hjz0 hjz1 lstart (by rfl) ?_
        intro V5 g5 E5 B5 O5
        have K5 := hide (K4.out.trans (O5.out.mono K4.out.size))
        have G5 := hide (show W7.heap.size ≤ g5 by rw [← E5.out]; exact K4.out.size)
        refine hK.out _ _ (HLs.out _ K5.out) (fun hHeld => ?_)
        clear hK K
        try simp only [Act.put, List.setIfInBounds_toArray, List.set_cons_zero, List.set_cons_succ, List.getElem_toArray, List.getElem_cons_zero, List.getElem_cons_succ]
        refine wpAnyH_take (i := 6) (v := ?_) rfl (by kernel_rfl) (by kernel_rfl) (by kernel_rfl) (fun _ _ _ h => h) (Or.inl ⟨by rfl, ?_⟩) (by assumption) ?_
        rotate_left
        ·(intro w9 hS9; (try simp only [List.getElem_toArray, List.getElem_cons_zero, List.getElem_cons_succ]); go_simp <;> rfl)
        try simp only [Act.put, List.setIfInBounds_toArray, List.set_cons_zero, List.set_cons_succ, List.getElem_toArray, List.getElem_cons_zero, List.getElem_cons_succ]
        refine wpAnyH_take (i := 7) (v := ?_) rfl (by kernel_rfl) (by kernel_rfl) (by kernel_rfl) (fun _ _ _ h => h) (Or.inl ⟨by rfl, ?_⟩) (by assumption) ?_
        rotate_left
        ·(intro w9 hS9; (try simp only [List.getElem_toArray, List.getElem_cons_zero, List.getElem_cons_succ]); go_simp <;> rfl)
        try simp only [Act.put, List.setIfInBounds_toArray, List.set_cons_zero, List.set_cons_succ, List.getElem_toArray, List.getElem_cons_zero, List.getElem_cons_succ]
        refine wpAnyH_done (by kernel_rfl) ?_ _
        try simp only [Exit.then]
        clear hHeld
        go_wp2_with fail
        go_meet
        refine hide ⟨K5.out, own_blk1 ((B1.out.below O4.out).below O5.out) G1.out, own_blk1 B5.out G5.out, own_blk1 (B4.out.below O5.out) G4.out, fun g h1 h2 => ?_⟩
        have h3 : g1 = g := by simpa [Value.ownBlock] using h1
        have h4 : g4 = g := by simpa [Value.ownBlock] using h2
        have h5 := (show Blk V1 g1 3 _ from B1.out).lt
        have h6 := E4.out
        omega
      ·refine step_build1 rfl (.tmp 65) 103 2 rfl ij Tryz.underlying103 hij hjz0 hjz1 lstart (by rfl) ?_
       intro V6 g6 E6 B6 O6
       have K6 := hide (K0.out.trans (O6.out.mono K0.out.size))
       have G6 := hide (show W7.heap.size ≤ g6 by rw [← E6.out]; exact K0.out.size)
       refine hK.out _ _ (HLs.out _ K6.out) (fun hHeld => ?_)
       clear hK K
       try simp only [Act.put, List.setIfInBounds_toArray, List.set_cons_zero, List.set_cons_succ, List.getElem_toArray, List.getElem_cons_zero, List.getElem_cons_succ]
       refine rdy2 0 4 (by kernel_rfl) rfl rfl (fun K hK => ?_) (fun K hK => ?_)
       ·refine step_build1 rfl (.const (.int .i64 0)) 86 3 rfl ii Tryz.underlying86 hii hiz0 hiz1 0 (by rfl) ?_
        intro V7 g7 E7 B7 O7
        have K7 := hide (K6.out.trans (O7.out.mono K6.out.size))
        have G7 := hide (show W7.heap.size ≤ g7 by rw [← E7.out]; exact K6.out.size)
        refine hK.out _ _ (HLs.out _ K7.out) (fun hHeld => ?_)
        clear hK K
        try simp only [Act.put, List.setIfInBounds_toArray, List.set_cons_zero, List.set_cons_succ, List.getElem_toArray, List.getElem_cons_zero, List.getElem_cons_succ]
        refine wpAnyH_take (i := 5) (v := ?_) rfl (by kernel_rfl) (by kernel_rfl) (by kernel_rfl) (fun _ _ _ h => h) (Or.inl ⟨by rfl, ?_⟩) (by assumption) ?_
        rotate_left
        ·(intro w9 hS9; (try simp only [List.getElem_toArray, List.getElem_cons_zero, List.getElem_cons_succ]); go_simp <;> rfl)
        try simp only [Act.put, List.setIfInBounds_toArray, List.set_cons_zero, List.set_cons_succ, List.getElem_toArray, List.getElem_cons_zero, List.getElem_cons_succ]
        refine wpAnyH_take (i := 6) (v := ?_) rfl (by kernel_rfl) (by kernel_rfl) (by kernel_rfl) (fun _ _ _ h => h) (Or.inl ⟨by rfl, ?_⟩) (by assumption) ?_
        rotate_left
        ·(intro w9 hS9; (try simp only [List.getElem_toArray, List.getElem_cons_zero, List.getElem_cons_succ]); go_simp <;> rfl)
        try simp only [Act.put, List.setIfInBounds_toArray, List.set_cons_zero, List.set_cons_succ, List.getElem_toArray, List.getElem_cons_zero, List.getElem_cons_succ]
        refine rdy1 4 (by kernel_rfl) rfl (fun K hK => ?_)
        refine step_build1 rfl (.const (.int .i64 0)) 86 3 rfl ii Tryz.underlying86 hii hiz0 hiz1 0 (by rfl) ?_
        intro V8 g8 E8 B8 O8
        have K8 := hide (K7.out.trans (O8.out.mono K7.out.size))
        have G8 := hide (show W7.heap.size ≤ g8 by rw [← E8.out]; exact K7.out.size)
        refine hK.out _ _ (HLs.out _ K8.out) (fun hHeld => ?_)
        clear hK K
        try simp only [Act.put, List.setIfInBounds_toArray, List.set_cons_zero, List.set_cons_succ, List.getElem_toArray, List.getElem_cons_zero, List.getElem_cons_succ]
        refine wpAnyH_take (i := 7) (v := ?_) rfl (by kernel_rfl) (by kernel_rfl) (by kernel_rfl) (fun _ _ _ h => h) (Or.inl ⟨by rfl, ?_⟩) (by assumption) ?_
        rotate_left
        ·(intro w9 hS9; (try simp only [List.getElem_toArray, List.getElem_cons_zero, List.getElem_cons_succ]); go_simp <;> rfl)
        try simp only [Act.put, List.setIfInBounds_toArray, List.set_cons_zero, List.set_cons_succ, List.getElem_toArray, List.getElem_cons_zero, List.getElem_cons_succ]
        refine wpAnyH_done (by kernel_rfl) ?_ _
        try simp only [Exit.then]
        clear hHeld
        go_wp2_with fail
        go_meet
        refine hide ⟨K8.out, own_blk1 (B7.out.below O8.out) G7.out, own_blk1 ((B6.out.below O7.out).below O8.out) G6.out, own_blk1 B8.out G8.out, fun g h1 h2 => ?_⟩
        have h3 : g7 = g := by simpa [Value.ownBlock] using h1
        have h4 : g8 = g := by simpa [Value.ownBlock] using h2
        have h5 := (show Blk V7 g7 3 _ from B7.out).lt
        have h6 := E8.out
        omega
       ·refine step_build1 rfl (.const (.int .i64 0)) 86 3 rfl ii Tryz.underlying86 hii hiz0 hiz1 0 (by rfl) ?_
        intro V9 g9 E9 B9 O9
        have K9 := hide (K6.out.trans (O9.out.mono K6.out.size))
        have G9 := hide (show W7.heap.size ≤ g9 by rw [← E9.out]; exact K6.out.size)
        refine hK.out _ _ (HLs.out _ K9.out) (fun hHeld => ?_)
        clear hK K
        try simp only [Act.put, List.setIfInBounds_toArray, List.set_cons_zero, List.set_cons_succ, List.getElem_toArray, List.getElem_cons_zero, List.getElem_cons_succ]
        refine rdy1 0 (by kernel_rfl) rfl (fun K hK => ?_)
        refine step_build1 rfl (.const (.int .i64 0)) 86 3 rfl ii Tryz.underlying86 hii hiz0 hiz1 0 (by rfl) ?_
        intro V10 g10 E10 B10 O10
        have K10 := hide (K9.out.trans (O10.out.mono K9.out.size))
        have G10 := hide (show W7.heap.size ≤ g10 by rw [← E10.out]; exact K9.out.size)
        refine hK.out _ _ (HLs.out _ K10.out) (fun hHeld => ?_)
        clear hK K
        try simp only [Act.put, List.setIfInBounds_toArray, List.set_cons_zero, List.set_cons_succ, List.getElem_toArray, List.getElem_cons_zero, List.getElem_cons_succ]
        refine wpAnyH_take (i := 5) (v := ?_) rfl (by kernel_rfl) (by kernel_rfl) (by kernel_rfl) (fun _ _ _ h => h) (Or.inl ⟨by rfl, ?_⟩) (by assumption) ?_
        rotate_left
        ·(intro w9 hS9; (try simp only [List.getElem_toArray, List.getElem_cons_zero, List.getElem_cons_succ]); go_simp <;> rfl)
        try simp only [Act.put, List.setIfInBounds_toArray, List.set_cons_zero, List.set_cons_succ, List.getElem_toArray, List.getElem_cons_zero, List.getElem_cons_succ]
        refine wpAnyH_take (i := 6) (v := ?_) rfl (by kernel_rfl) (by kernel_rfl) (by kernel_rfl) (fun _ _ _ h => h) (Or.inl ⟨by rfl, ?_⟩) (by assumption) ?_
        rotate_left
        ·(intro w9 hS9; (try simp only [List.getElem_toArray, List.getElem_cons_zero, List.getElem_cons_succ]); go_simp <;> rfl)
        try simp only [Act.put, List.setIfInBounds_toArray, List.set_cons_zero, List.set_cons_succ, List.getElem_toArray, List.getElem_cons_zero, List.getElem_cons_succ]
        refine wpAnyH_take (i := 7) (v := ?_) rfl (by kernel_rfl) (by kernel_rfl) (by kernel_rfl) (fun _ _ _ h => h) (Or.inl ⟨by rfl, ?_⟩) (by assumption) ?_
        rotate_left
        ·(intro w9 hS9; (try simp only [List.getElem_toArray, List.getElem_cons_zero, List.getElem_cons_succ]); go_simp <;> rfl)
        try simp only [Act.put, List.setIfInBounds_toArray, List.set_cons_zero, List.set_cons_succ, List.getElem_toArray, List.getElem_cons_zero, List.getElem_cons_succ]
        refine wpAnyH_done (by kernel_rfl) ?_ _
        try simp only [Exit.then]
        clear hHeld
        go_wp2_with fail
        go_meet
        refine hide ⟨K10.out, own_blk1 B10.out G10.out, own_blk1 ((B6.out.below O9.out).below O10.out) G6.out, own_blk1 (B9.out.below O10.out) G9.out, fun g h1 h2 => ?_⟩
        have h3 : g10 = g := by simpa [Value.ownBlock] using h1
        have h4 : g9 = g := by simpa [Value.ownBlock] using h2
        have h5 := (show Blk V9 g9 3 _ from B9.out).lt
        have h6 := E10.out
        omega
      ·refine step_build1 rfl (.const (.int .i64 0)) 86 3 rfl ii Tryz.underlying86 hii hiz0 hiz1 0 (by rfl) ?_
       intro V11 g11 E11 B11 O11
       have K11 := hide (K0.out.trans (O11.out.mono K0.out.size))
       have G11 := hide (show W7.heap.size ≤ g11 by rw [← E11.out]; exact K0.out.size)
       refine hK.out _ _ (HLs.out _ K11.out) (fun hHeld => ?_)
       clear hK K
       try simp only [Act.put, List.setIfInBounds_toArray, List.set_cons_zero, List.set_cons_succ, List.getElem_toArray, List.getElem_cons_zero, List.getElem_cons_succ]
       refine rdy2 0 3 (by kernel_rfl) rfl rfl (fun K hK => ?_) (fun K hK => ?_)
       ·refine step_build1 rfl (.const (.int .i64 0)) 86 3 rfl ii Tryz.underlying86 hii hiz0 hiz1 0 (by rfl) ?_
        intro V12 g12 E12 B12 O12
        have K12 := hide (K11.out.trans (O12.out.mono K11.out.size))
        have G12 := hide (show W7.heap.size ≤ g12 by rw [← E12.out]; exact K11.out.size)
        refine hK.out _ _ (HLs.out _ K12.out) (fun hHeld => ?_)
        clear hK K
        try simp only [Act.put, List.setIfInBounds_toArray, List.set_cons_zero, List.set_cons_succ, List.getElem_toArray, List.getElem_cons_zero, List.getElem_cons_succ]
        refine wpAnyH_take (i := 5) (v := ?_) rfl (by kernel_rfl) (by kernel_rfl) (by kernel_rfl) (fun _ _ _ h => h) (Or.inl ⟨by rfl, ?_⟩) (by assumption) ?_
        rotate_left
        ·(intro w9 hS9; (try simp only [List.getElem_toArray, List.getElem_cons_zero, List.getElem_cons_succ]); go_simp <;> rfl)
        try simp only [Act.put, List.setIfInBounds_toArray, List.set_cons_zero, List.set_cons_succ, List.getElem_toArray, List.getElem_cons_zero, List.getElem_cons_succ]
        refine rdy1 3 (by kernel_rfl) rfl (fun K hK => ?_)
        refine step_build1 rfl (.tmp 65) 103 2 rfl ij Tryz.underlying103 hij hjz0 hjz1 lstart (by rfl) ?_
        intro V13 g13 E13 B13 O13
        have K13 := hide (K12.out.trans (O13.out.mono K12.out.size))
        have G13 := hide (show W7.heap.size ≤ g13 by rw [← E13.out]; exact K12.out.size)
        refine hK.out _ _ (HLs.out _ K13.out) (fun hHeld => ?_)
        clear hK K
        try simp only [Act.put, List.setIfInBounds_toArray, List.set_cons_zero, List.set_cons_succ, List.getElem_toArray, List.getElem_cons_zero, List.getElem_cons_succ]
        refine wpAnyH_take (i := 6) (v := ?_) rfl (by kernel_rfl) (by kernel_rfl) (by kernel_rfl) (fun _ _ _ h => h) (Or.inl ⟨by rfl, ?_⟩) (by assumption) ?_
        rotate_left
        ·(intro w9 hS9; (try simp only [List.getElem_toArray, List.getElem_cons_zero, List.getElem_cons_succ]); go_simp <;> rfl)
        try simp only [Act.put, List.setIfInBounds_toArray, List.set_cons_zero, List.set_cons_succ, List.getElem_toArray, List.getElem_cons_zero, List.getElem_cons_succ]
        refine wpAnyH_take (i := 7) (v := ?_) rfl (by kernel_rfl) (by kernel_rfl) (by kernel_rfl) (fun _ _ _ h => h) (Or.inl ⟨by rfl, ?_⟩) (by assumption) ?_
        rotate_left
        ·(intro w9 hS9; (try simp only [List.getElem_toArray, List.getElem_cons_zero, List.getElem_cons_succ]); go_simp <;> rfl)
        try simp only [Act.put, List.setIfInBounds_toArray, List.set_cons_zero, List.set_cons_succ, List.getElem_toArray, List.getElem_cons_zero, List.getElem_cons_succ]
        refine wpAnyH_done (by kernel_rfl) ?_ _
        try simp only [Exit.then]
        clear hHeld
        go_wp2_with fail
        go_meet
        refine hide ⟨K13.out, own_blk1 (B12.out.below O13.out) G12.out, own_blk1 B13.out G13.out, own_blk1 ((B11.out.below O12.out).below O13.out) G11.out, fun g h1 h2 => ?_⟩
        have h3 : g12 = g := by simpa [Value.ownBlock] using h1
        have h4 : g11 = g := by simpa [Value.ownBlock] using h2
        have h5 := (show Blk V11 g11 3 _ from B11.out).lt
        have h6 := E12.out
        omega
       ·refine step_build1 rfl (.tmp 65) 103 2 rfl ij Tryz.underlying103 hij hjz0 hjz1 lstart (by rfl) ?_
        intro V14 g14 E14 B14 O14
        have K14 := hide (K11.out.trans (O14.out.mono K11.out.size))
        have G14 := hide (show W7.heap.size ≤ g14 by rw [← E14.out]; exact K11.out.size)
        refine hK.out _ _ (HLs.out _ K14.out) (fun hHeld => ?_)
        clear hK K
        try simp only [Act.put, List.setIfInBounds_toArray, List.set_cons_zero, List.set_cons_succ, List.getElem_toArray, List.getElem_cons_zero, List.getElem_cons_succ]
        refine rdy1 0 (by kernel_rfl) rfl (fun K hK => ?_)
        refine step_build1 rfl (.const (.int .i64 0)) 86 3 rfl ii Tryz.underlying86 hii hiz0 hiz1 0 (by rfl) ?_
        intro V15 g15 E15 B15 O15
        have K15 := hide (K14.out.trans (O15.out.mono K14.out.size))
        have G15 := hide (show W7.heap.size ≤ g15 by rw [← E15.out]; exact K14.out.size)
        refine hK.out _ _ (HLs.out _ K15.out) (fun hHeld => ?_)
        clear hK K
        try simp only [Act.put, List.setIfInBounds_toArray, List.set_cons_zero, List.set_cons_succ, List.getElem_toArray, List.getElem_cons_zero, List.getElem_cons_succ]
        refine wpAnyH_take (i := 5) (v := ?_) rfl (by kernel_rfl) (by kernel_rfl) (by kernel_rfl) (fun _ _ _ h => h) (Or.inl ⟨by rfl, ?_⟩) (by assumption) ?_
        rotate_left
        ·(intro w9 hS9; (try simp only [List.getElem_toArray, List.getElem_cons_zero, List.getElem_cons_succ]); go_simp <;> rfl)
        try simp only [Act.put, List.setIfInBounds_toArray, List.set_cons_zero, List.set_cons_succ, List.getElem_toArray, List.getElem_cons_zero, List.getElem_cons_succ]
        refine wpAnyH_take (i := 6) (v := ?_) rfl (by kernel_rfl) (by kernel_rfl) (by kernel_rfl) (fun _ _ _ h => h) (Or.inl ⟨by rfl, ?_⟩) (by assumption) ?_
        rotate_left
        ·(intro w9 hS9; (try simp only [List.getElem_toArray, List.getElem_cons_zero, List.getElem_cons_succ]); go_simp <;> rfl)
        try simp only [Act.put, List.setIfInBounds_toArray, List.set_cons_zero, List.set_cons_succ, List.getElem_toArray, List.getElem_cons_zero, List.getElem_cons_succ]
        refine wpAnyH_take (i := 7) (v := ?_) rfl (by kernel_rfl) (by kernel_rfl) (by kernel_rfl) (fun _ _ _ h => h) (Or.inl ⟨by rfl, ?_⟩) (by assumption) ?_
        rotate_left
        ·(intro w9 hS9; (try simp only [List.getElem_toArray, List.getElem_cons_zero, List.getElem_cons_succ]); go_simp <;> rfl)
        try simp only [Act.put, List.setIfInBounds_toArray, List.set_cons_zero, List.set_cons_succ, List.getElem_toArray, List.getElem_cons_zero, List.getElem_cons_succ]
        refine wpAnyH_done (by kernel_rfl) ?_ _
        try simp only [Exit.then]
        clear hHeld
        go_wp2_with fail
        go_meet
        refine hide ⟨K15.out, own_blk1 B15.out G15.out, own_blk1 (B14.out.below O15.out) G14.out, own_blk1 ((B11.out.below O14.out).below O15.out) G11.out, fun g h1 h2 => ?_⟩
        have h3 : g15 = g := by simpa [Value.ownBlock] using h1
        have h4 : g11 = g := by simpa [Value.ownBlock] using h2
        have h5 := (show Blk V14 g11 3 _ from (B11.out.below O14.out)).lt
        have h6 := E15.out
        omega
     case rest =>
      have HA0 := hcut
      clear hcut
      have HKb := hide (show ∀ V, Below W7.heap.size W7 V → Below w.heap.size w V from fun V h => HB7.out.trans (h.mono HB7.out.size))
      go_wp2_with fail
      go_loopw [11, 12, 13, 14] (fun av wv bv i w2 => ∃ k2 : Nat, k2 ≤ sl ∧ i = .int .i64 k2 ∧ Hid (AWB W7 w2 av wv bv (atL (placesM P lstart S k2)) (whenL (placesM P lstart S k2)) (behL (placesM P lstart S k2)))) (fun _ _ _ i _ => sl - (intOf i).toNat)
      case atStart => exact ⟨0, Nat.zero_le _, rfl, HA0⟩
      case round =>
       clear HA0
       obtain ⟨k2, hk2, rfl, HA⟩ := hrel
       have hTl := (HPln.out k2).2
       by_cases hl2 : k2 < sl
       case pos =>
        obtain ⟨sb, so, hLB, hsb, -⟩ := stp35_cells HSt7.out k2 (by rw [← Hsl.out]; exact hl2)
        subst hLB
        have HPk := hide (HPlc.out k2)
        have HPs := hide (HPls.out k2)
        have HY := hide (show ∀ V, Below W7.heap.size W7 V → (V.cell? ⟨xg, 5, none⟩ = some (.slice (some ⟨sb, so, none⟩) sl ld) ∧ V.cell? ⟨sb, so + k2 * 6, none⟩ = some (.int .i64 (stAt S k2).tick) ∧ V.cell? ⟨sb, so + k2 * 6 + 1, none⟩ = some (.int .i64 (stAt S k2).at_) ∧ V.cell? ⟨sb, so + k2 * 6 + 2, none⟩ = some (.int .i64 (stAt S k2).what) ∧ V.cell? ⟨sb, so + k2 * 6 + 3, none⟩ = some (.int .i64 (stAt S k2).arm) ∧ V.cell? ⟨sb, so + k2 * 6 + 4, none⟩ = some (.int .i64 (stAt S k2).n) ∧ V.cell? ⟨sb, so + k2 * 6 + 5, none⟩ = some (.int .i64 (stAt S k2).status)) ∧ V.cell? ⟨pg, 0, none⟩ = some (.string vs) ∧ V.cell? ⟨pg, 1, none⟩ = some (.int .i64 vd) ∧ V.cell? ⟨pg, 2, none⟩ = some (.int .i64 vj) ∧ V.cell? ⟨pg, 3, none⟩ = some (.slice vPA vn vpc) from fun V h => by
         obtain ⟨b2, o2, hA2, _, y0, y1, y2, y3, y4, y5⟩ := stp35_cells (HSt7.out.below h) k2 (by rw [← Hsl.out]; exact hl2)
         injection hA2 with hA2
         injection hA2 with h3 h4
         subst h3 h4
         exact ⟨⟨by rw [(HL7.out.below h).cell]; rfl, y0, y1, y2, y3, y4, y5⟩, by rw [(HP7.out.below h).cell]; rfl, by rw [(HP7.out.below h).cell]; rfl, by rw [(HP7.out.below h).cell]; rfl, by rw [(HP7.out.below h).cell]; rfl⟩)
        obtain ⟨x, hx⟩ : ∃ x, x = stAt S k2 := ⟨_, rfl⟩
        rw [← hx] at HY HPs
        clear hx
        obtain ⟨st, sa, sw, sr, sn2, ss⟩ := x
        simp only at HY HPs
        have HN2 := hide (HNxq.out st sa sw sr sn2 ss)
        obtain ⟨to_, hto⟩ : ∃ t, t = NextM P ⟨st, sa, sw, sr, sn2, ss⟩ := ⟨_, rfl⟩
        rw [← hto] at HN2 HPs
        obtain ⟨Tk, hTk⟩ : ∃ Tk, Tk = placesM P lstart S k2 := ⟨_, rfl⟩
        rw [← hTk] at HA HPk hTl
        obtain ⟨xs, hxs⟩ : ∃ xs, xs = atL Tk := ⟨_, rfl⟩
        obtain ⟨ys, hys⟩ : ∃ ys, ys = whenL Tk := ⟨_, rfl⟩
        obtain ⟨zs, hzs⟩ : ∃ zs, zs = behL Tk := ⟨_, rfl⟩
        have hxl : xs.length ≤ 1000 := by rw [hxs]; unfold atL; rw [List.length_map]; omega
        have hyl : ys.length ≤ 1000 := by rw [hys]; unfold whenL; rw [List.length_map]; omega
        have hzl : zs.length ≤ 1000 := by rw [hzs]; unfold behL; rw [List.length_map]; omega
        rw [← hxs, ← hys, ← hzs] at HA
        have Hxs := hide hxs
        have Hys := hide hys
        have Hzs := hide hzs
        clear hto hTk hxs hys hzs
        have e1 : decide ((k2 : Int) < (sl : Int)) = true := by simp; exact hl2
        have e2 : decide (k2 < sl) = true := by simp; exact hl2
        have e3 : (0 : Int) ≤ (k2 : Int) := by omega
        have e4 : (k2 : Int) < (sl : Int) := by omega
        have w9 : IntKind.i64.wrap ((k2 : Int) + 1) = (k2 : Int) + 1 := IntWalk.i64_in _ (by omega)
        have z5 := (HY.out wr HA.out.o).1.1
        go_upto_region 12 with fail
        obtain ⟨V0, hV0⟩ : ∃ V9, V9 = wr.drew := ⟨_, rfl⟩
        have H0 := hide (show AWB W7 V0 _ _ _ xs ys zs by rw [hV0]; exact HA.out.below (below_drew' (Below.refl _ _)))
        clear HA z5
        refine wp_region_held (S := fun w' => (w'.cell? ⟨xg, 5, none⟩ = some (.slice (some ⟨sb, so, none⟩) sl ld) ∧ w'.cell? ⟨sb, so + k2 * 6, none⟩ = some (.int .i64 st) ∧ w'.cell? ⟨sb, so + k2 * 6 + 1, none⟩ = some (.int .i64 sa) ∧ w'.cell? ⟨sb, so + k2 * 6 + 2, none⟩ = some (.int .i64 sw) ∧ w'.cell? ⟨sb, so + k2 * 6 + 3, none⟩ = some (.int .i64 sr) ∧ w'.cell? ⟨sb, so + k2 * 6 + 4, none⟩ = some (.int .i64 sn2) ∧ w'.cell? ⟨sb, so + k2 * 6 + 5, none⟩ = some (.int .i64 ss)) ∧ w'.cell? ⟨pg, 0, none⟩ = some (.string vs) ∧ w'.cell? ⟨pg, 1, none⟩ = some (.int .i64 vd) ∧ w'.cell? ⟨pg, 2, none⟩ = some (.int .i64 vj) ∧ w'.cell? ⟨pg, 3, none⟩ = some (.slice vPA vn vpc)) (by kernel_rfl) ?_
        change wpAnyH _ _ _ _ _ _ _ _ wr.drew
        have hHeld : (fun w' => (w'.cell? ⟨xg, 5, none⟩ = some (.slice (some ⟨sb, so, none⟩) sl ld) ∧ w'.cell? ⟨sb, so + k2 * 6, none⟩ = some (.int .i64 st) ∧ w'.cell? ⟨sb, so + k2 * 6 + 1, none⟩ = some (.int .i64 sa) ∧ w'.cell? ⟨sb, so + k2 * 6 + 2, none⟩ = some (.int .i64 sw) ∧ w'.cell? ⟨sb, so + k2 * 6 + 3, none⟩ = some (.int .i64 sr) ∧ w'.cell? ⟨sb, so + k2 * 6 + 4, none⟩ = some (.int .i64 sn2) ∧ w'.cell? ⟨sb, so + k2 * 6 + 5, none⟩ = some (.int .i64 ss)) ∧ w'.cell? ⟨pg, 0, none⟩ = some (.string vs) ∧ w'.cell? ⟨pg, 1, none⟩ = some (.int .i64 vd) ∧ w'.cell? ⟨pg, 2, none⟩ = some (.int .i64 vj) ∧ w'.cell? ⟨pg, 3, none⟩ = some (.slice vPA vn vpc)) wr.drew := (by rw [← hV0]; exact HY.out V0 H0.out.o)
        rw [← hV0] at hHeld ⊢
        simp only [List.size_toArray, List.length_cons, List.length_nil, Nat.zero_add, Nat.reduceAdd]
        clear hV0
        refine wpAnyH_take (i := 0) (v := ?_) rfl (by kernel_rfl) (by kernel_rfl) (by kernel_rfl) (fun _ _ _ h => h) (Or.inl ⟨by rfl, ?_⟩) (by assumption) ?_
        rotate_left
        ·(intro w9 hS9; (try simp only [List.getElem_toArray, List.getElem_cons_zero, List.getElem_cons_succ]); go_simp <;> rfl)
        try simp only [Act.put, List.setIfInBounds_toArray, List.set_cons_zero, List.set_cons_succ, List.getElem_toArray, List.getElem_cons_zero, List.getElem_cons_succ]
        refine wpAnyH_take (i := 1) (v := ?_) rfl (by kernel_rfl) (by kernel_rfl) (by kernel_rfl) (fun _ _ _ h => h) (Or.inl ⟨by rfl, ?_⟩) (by assumption) ?_
        rotate_left
        ·(intro w9 hS9; (try simp only [List.getElem_toArray, List.getElem_cons_zero, List.getElem_cons_succ]); go_simp <;> rfl)
        try simp only [Act.put, List.setIfInBounds_toArray, List.set_cons_zero, List.set_cons_succ, List.getElem_toArray, List.getElem_cons_zero, List.getElem_cons_succ]
        refine wpAnyH_take (i := 2) (v := ?_) rfl (by kernel_rfl) (by kernel_rfl) (by kernel_rfl) (fun _ _ _ h => h) (Or.inl ⟨by rfl, ?_⟩) (by assumption) ?_
        rotate_left
        ·(intro w9 hS9; (try simp only [List.getElem_toArray, List.getElem_cons_zero, List.getElem_cons_succ]); go_simp <;> rfl)
        try simp only [Act.put, List.setIfInBounds_toArray, List.set_cons_zero, List.set_cons_succ, List.getElem_toArray, List.getElem_cons_zero, List.getElem_cons_succ]
        refine wpAnyH_take (i := 3) (v := ?_) rfl (by kernel_rfl) (by kernel_rfl) (by kernel_rfl) (fun _ _ _ h => h) (Or.inl ⟨by rfl, ?_⟩) (by assumption) ?_
        rotate_left
        ·(intro w9 hS9; (try simp only [List.getElem_toArray, List.getElem_cons_zero, List.getElem_cons_succ]); go_simp <;> rfl)
        try simp only [Act.put, List.setIfInBounds_toArray, List.set_cons_zero, List.set_cons_succ, List.getElem_toArray, List.getElem_cons_zero, List.getElem_cons_succ]
        refine wpAnyH_take (i := 4) (v := ?_) rfl (by kernel_rfl) (by kernel_rfl) (by kernel_rfl) (fun _ _ _ h => h) (Or.inl ⟨by rfl, ?_⟩) (by assumption) ?_
        rotate_left
        ·(intro w9 hS9; (try simp only [List.getElem_toArray, List.getElem_cons_zero, List.getElem_cons_succ]); go_simp <;> rfl)
        try simp only [Act.put, List.setIfInBounds_toArray, List.set_cons_zero, List.set_cons_succ, List.getElem_toArray, List.getElem_cons_zero, List.getElem_cons_succ]
        refine wpAnyH_take (i := 5) (v := ?_) rfl (by kernel_rfl) (by kernel_rfl) (by kernel_rfl) (fun _ _ _ h => h) (Or.inl ⟨by rfl, ?_⟩) (by assumption) ?_
        rotate_left
        ·(intro w9 hS9; (try simp only [List.getElem_toArray, List.getElem_cons_zero, List.getElem_cons_succ]); go_simp <;> rfl)
        try simp only [Act.put, List.setIfInBounds_toArray, List.set_cons_zero, List.set_cons_succ, List.getElem_toArray, List.getElem_cons_zero, List.getElem_cons_succ]
        refine wpAnyH_ready (rs := [6]) (by kernel_rfl) (by simp) ?_
        refine AllReadyH.cons rfl (fun K hK => ?_) AllReadyH.nil
        try simp only [List.getElem_toArray, List.getElem_cons_zero, List.getElem_cons_succ]
        try go_simp
        go_at_call 10
        refine (HN2.out _ (HKb.out _ H0.out.o)).mono ?_
        rintro e V1 ⟨rfl, hb6⟩
        have H1 := hide (H0.out.below hb6)
        clear hb6
        refine hK.out _ _ (HY.out _ H1.out.o) (fun hHeld => ?_)
        clear hK K
        try simp only [Act.put, List.setIfInBounds_toArray, List.set_cons_zero, List.set_cons_succ, List.getElem_toArray, List.getElem_cons_zero, List.getElem_cons_succ]
        refine wpAnyH_take (i := 7) (v := ?_) rfl (by kernel_rfl) (by kernel_rfl) (by kernel_rfl) (fun _ _ _ h => h) (Or.inl ⟨by rfl, ?_⟩) (by assumption) ?_
        rotate_left
        ·(intro w9 hS9; (try simp only [List.getElem_toArray, List.getElem_cons_zero, List.getElem_cons_succ]); go_simp <;> rfl)
        try simp only [Act.put, List.setIfInBounds_toArray, List.set_cons_zero, List.set_cons_succ, List.getElem_toArray, List.getElem_cons_zero, List.getElem_cons_succ]
        refine wpAnyH_done (by kernel_rfl) ?_ _
        try simp only [Exit.then]
        clear hHeld
        by_cases h0 : 0 ≤ to_
        case neg =>
         have b0 : decide ((0 : Int) ≤ to_) = false := by simp; omega
         have HPe := hide (show placesM P lstart S (k2 + 1) = Tk by rw [HPk.out, HPs.out, if_neg (by omega), List.append_nil])
         clear h0
         go_wp2_with fail
         go_roundw
         case rel => exact ⟨k2 + 1, by omega, by go_num, by rw [HPe.out, ← Hxs.out, ← Hys.out, ← Hzs.out]; exact H1⟩
         case measure => simp [intOf]; omega
        case pos =>
         have b0 : decide ((0 : Int) ≤ to_) = true := by simp; omega
         have HPe := hide (show placesM P lstart S (k2 + 1) = Tk ++ [(to_, st, k2 + 1)] by rw [HPk.out, HPs.out, if_pos (by omega)])
         have HRl := hide (fun (V : World) (v1 v2 v3 : Value) (h : Hid (AWB W7 V v1 v2 v3 (xs ++ [to_]) (ys ++ [st]) (zs ++ [(k2 : Int) + 1]))) => show Hid (AWB W7 V v1 v2 v3 (atL (placesM P lstart S (k2 + 1))) (whenL (placesM P lstart S (k2 + 1))) (behL (placesM P lstart S (k2 + 1)))) from by
          rw [HPe.out, atL_append, whenL_append, behL_append, ← Hxs.out, ← Hys.out, ← Hzs.out]
          exact h)
         clear h0 H0
         go_upto_region 14 with fail
         have HZ := hide (show ∀ V, Below W7.heap.size W7 V → V.cell? ⟨xg, 5, none⟩ = some (.slice (some ⟨sb, so, none⟩) sl ld) ∧ V.cell? ⟨sb, so + k2 * 6, none⟩ = some (.int .i64 st) from fun V h => ⟨(HY.out V h).1.1, (HY.out V h).1.2.1⟩)
         refine reg14 _ rfl _ W7 V1 _ _ _ xs ys zs k2 sl ld to_ st xg sb so hl2 (by omega) hxl hyl hzl H1 HZ (fun c a d v w h => by cases d <;> exact h) _ _ _ _ _ _ _ _ _ _ _ _ _ _ _ _ _ _ _ _ _ _ _ _ _ _ _ _ _ _ _ _ _ _ _ _ _ _ _ _ _ _ _ _ _ _ _ _ _ _ _ _ _ _ _ _ _ _ _ _ _ _ _ _ _ _ _ _ _ _ _ _ _ _ _ _ _ _ _ _ _ _ _ _ _ _ _ _ _ _ _ _ _ _ _ _ _ _ _ _ _ _ _ _ _ _ _ _ _ _ _ _ _ _ _ _ _ _ _ _ _ _ _ _ _ _ _ _ _ _ _ _ _ _ _ _ _ _ _ _ _ _ _ _ _ _ _ _ _ _ _ _ _ _ _ _ _ _ _ _ _ _ _ _ _ _ _ _ _ _ _ _ _ _ _ _ _ _ _ _ _ _ _ _ _ _ _ _ ?_
         intro v1 v2 v3 V2 t84 t85 t86 t87 t88 t89 t90 t91 t92 t93 t94 t95 t96 t97 t98 t99 t100 t101 HC
         go_wp2_with fail
         go_roundw
         case rel => exact ⟨k2 + 1, by omega, by go_num, HRl.out _ _ _ _ HC⟩
         case measure => simp [intOf]; omega
       case neg =>
        obtain rfl : k2 = sl := by omega
        clear hk2 hl2
        have e1 : decide ((k2 : Int) < (k2 : Int)) = false := by simp
        have e2 : decide (k2 < k2) = false := by simp
        have hSl := Hsl.out
        rw [← hSl] at HPok
        obtain ⟨Tk, hTk⟩ : ∃ Tk, Tk = placesM P lstart S k2 := ⟨_, rfl⟩
        have hT1 := (HPln.out k2).1
        rw [← hTk] at HA HF2 hll HPok hTl hT1
        have HTm := hide (fun (jn : Nat) (h : jn < Tk.length) => HPok.out _ (List.getElem_mem h))
        have HOd := hide (outD_succ P lwho S Tk)
        have HOl := hide (outD_len P lwho S Tk)
        have Hnx := hide (fun (j : Nat) (h : j < Tk.length) => nth_atL h)
        have Hny := hide (fun (j : Nat) (h : j < Tk.length) => nth_whenL h)
        have Hnz := hide (fun (j : Nat) (h : j < Tk.length) => nth_behL h)
        obtain ⟨xs, hxs⟩ : ∃ xs, xs = atL Tk := ⟨_, rfl⟩
        obtain ⟨ys, hys⟩ : ∃ ys, ys = whenL Tk := ⟨_, rfl⟩
        obtain ⟨zs, hzs⟩ : ∃ zs, zs = behL Tk := ⟨_, rfl⟩
        obtain ⟨nT, hnT⟩ : ∃ nT, nT = Tk.length := ⟨_, rfl⟩
        have hxl : xs.length = nT := by rw [hxs, hnT]; simp [atL]
        have hyl : ys.length = nT := by rw [hys, hnT]; simp [whenL]
        have hzl : zs.length = nT := by rw [hzs, hnT]; simp [behL]
        rw [← hxs, ← hys, ← hzs] at HA
        rw [← hxs] at Hnx
        rw [← hys] at Hny
        rw [← hzs] at Hnz
        rw [← hnT] at HF2 hll hTl hT1
        have HnT := hide hnT
        clear HPok hTk hxs hys hzs hnT hSl HPlc HPls HPln
        obtain ⟨AA, ca, hA1, _⟩ := own_cap HA.out.a
        obtain ⟨AW, cw, hA2, _⟩ := own_cap HA.out.w
        obtain ⟨AB, cb, hA3, _⟩ := own_cap HA.out.b
        subst hA1 hA2 hA3
        have hko := HA.out.o
        have hO7 := own_ltF HOw7.out
        have hRa := (Rd.of_own (M := (· < W7.heap.size)) HA.out.a (fun k hk => hk)).mono (M' := fun kk => (Value.slice OA m oc).ownBlock = some kk) (fun kk h => hO7 kk h)
        have hRw := (Rd.of_own (M := (· < W7.heap.size)) HA.out.w (fun k hk => hk)).mono (M' := fun kk => (Value.slice OA m oc).ownBlock = some kk) (fun kk h => hO7 kk h)
        have hRb := (Rd.of_own (M := (· < W7.heap.size)) HA.out.b (fun k hk => hk)).mono (M' := fun kk => (Value.slice OA m oc).ownBlock = some kk) (fun kk h => hO7 kk h)
        obtain ⟨ga, oa, hq1, _⟩ := id_cell hRa 0 (by omega)
        obtain ⟨gw, ow, hq2, _⟩ := id_cell hRw 0 (by omega)
        obtain ⟨gb, ob, hq3, _⟩ := id_cell hRb 0 (by omega)
        subst hq1 hq2 hq3
        have HJ := hide (show JS35 w M1 w1.heap.size xg pg #[.int .i64 lwho, .int .i64 (q : Int), .int .i64 lstart, .slice LA i0 lc, .slice LC c0 c3, .slice LB k2 ld, .string lread, .string ltaken, .bool leof, .int .i64 lstatus] #[.string vs, .int .i64 vd, .int .i64 vj, .slice vPA vn vpc] (some ⟨b, oo, none⟩) (idsL l) LB S (some ⟨ga, oa, none⟩) (some ⟨gw, ow, none⟩) (some ⟨gb, ob, none⟩) xs ys zs wr (.slice OA m oc) out from ⟨HB7.out.trans (hko.mono HB7.out.size), HL7.out.below hko, HP7.out.below hko, HR7.out.below hko, HSt7.out.below hko, hRa, hRw, hRb, by rw [← Hm.out]; exact own_bel HOw7.out hko, HOn.out, Nat.le_trans HSz7.out hko.size⟩)
        rw [hxl, hyl, hzl]
        have HOt := hide (show out = out ++ outD P lwho S Tk 0 by simp [outD])
        clear hko hO7 hRa hRw hRb HA HL7 HP7 HR7 HSt7 HOw7 HB7 HSz7 HKb
        have z5 : wr.cell? ⟨xg, 5, none⟩ = some (.slice LB k2 ld) := by rw [HJ.out.lf.cell]; rfl
        go_wp2_with fail
        clear z5
        go_loopw [5, 16] (fun ov j w2 => ∃ (jn : Nat) (out2 : List WtM), jn ≤ nT ∧ j = .int .i64 jn ∧ Hid (out2 = out ++ outD P lwho S Tk jn) ∧ Hid (JS35 w M1 w1.heap.size xg pg #[.int .i64 lwho, .int .i64 (q : Int), .int .i64 lstart, .slice LA i0 lc, .slice LC c0 c3, .slice LB k2 ld, .string lread, .string ltaken, .bool leof, .int .i64 lstatus] #[.string vs, .int .i64 vd, .int .i64 vj, .slice vPA vn vpc] (some ⟨b, oo, none⟩) (idsL l) LB S (some ⟨ga, oa, none⟩) (some ⟨gw, ow, none⟩) (some ⟨gb, ob, none⟩) xs ys zs w2 ov out2)) (fun _ j _ => nT - (intOf j).toNat)
        case atStart => exact ⟨0, out, Nat.zero_le _, rfl, HOt, HJ⟩
        case round =>
         clear HOt HJ
         obtain ⟨jn, out2, hjn, rfl, HOt, HJ⟩ := hrel
         obtain ⟨wj, hwj⟩ : ∃ wj, wj = wr := ⟨_, rfl⟩
         subst hwj
         have hz2 := HOl.out jn
         have ho2 : out2.length ≤ 2000000 := by rw [HOt.out, List.length_append, ← Hm.out]; omega
         obtain ⟨VA, vc2, rfl, _⟩ := own_cap HJ.out.oo
         have w10 : IntKind.i64.wrap ((jn : Int) + 1) = (jn : Int) + 1 := IntWalk.i64_in _ (by omega)
         by_cases hl3 : jn < nT
         case neg =>
          obtain rfl : jn = nT := by omega
          have e3 : decide ((jn : Int) < (jn : Int)) = false := by simp
          have e4 : decide (jn < jn) = false := by simp
          go_wp2_with fail
          go_roundw
          case rel => exact ⟨k + 1, out2, by omega, by go_num, by rw [HF2.out, HOt.out]; exact hide rfl, hide HJ.out.oo, hide HJ.out.bel, hide HJ.out.idr, hide HJ.out.om, hide HJ.out.sz⟩
          case measure => simp [intOf]; omega
         case pos =>
          have e3 : decide ((jn : Int) < (nT : Int)) = true := by simp; exact hl3
          have e4 : decide (jn < nT) = true := by simp; exact hl3
          have e5 : (0 : Int) ≤ (jn : Int) := by omega
          have e6 : (jn : Int) < (nT : Int) := by omega
          have hjT : jn < Tk.length := by rw [← HnT.out]; exact hl3
          obtain ⟨t1, t2, t3⟩ := HTm.out jn hjT
          have hnx := Hnx.out jn hjT
          have hny := Hny.out jn hjT
          have hnz := Hnz.out jn hjT
          have HOd1 := hide (HOd.out jn hjT)
          obtain ⟨t, ht⟩ : ∃ t, t = Tk[jn] := ⟨_, rfl⟩
          rw [← ht] at t1 t2 t3 hnx hny hnz HOd1
          obtain ⟨opI, wh, bh⟩ := t
          simp only at t1 t2 t3 hnx hny hnz
          obtain ⟨op, hop⟩ : ∃ op : Nat, opI = op := ⟨opI.toNat, by omega⟩
          subst hop
          have HWD := hide (show waitD P lwho S ((op : Int), wh, bh) = if beginB P op = true then [closeD (beginW P lwho op wh) (S.drop bh)] else [] from rfl)
          have HC := hide (show ∀ V, Below wj.heap.size wj V → V.cell? ⟨ga, oa + jn, none⟩ = some (.int .i64 (op : Int)) ∧ V.cell? ⟨gw, ow + jn, none⟩ = some (.int .i64 wh) ∧ V.cell? ⟨gb, ob + jn, none⟩ = some (.int .i64 (bh : Int)) ∧ V.cell? ⟨pg, 3, none⟩ = some (.slice vPA vn vpc) ∧ V.cell? ⟨xg, 0, none⟩ = some (.int .i64 lwho) ∧ V.cell? ⟨xg, 5, none⟩ = some (.slice LB k2 ld) from fun V h => by
           have q := HJ.out.below h
           obtain ⟨b1, o1, h1, _, c1⟩ := id_cell q.ra jn (by omega)
           obtain ⟨b2, o2, h2, _, c2⟩ := id_cell q.rw_ jn (by omega)
           obtain ⟨b3, o3, h3, _, c3⟩ := id_cell q.rb jn (by omega)
           injection h1 with h1; injection h1 with h4 h5; subst h4 h5
           injection h2 with h2; injection h2 with h4 h5; subst h4 h5
           injection h3 with h3; injection h3 with h4 h5; subst h4 h5
           rw [hnx] at c1; rw [hny] at c2; rw [hnz] at c3
           exact ⟨c1, c2, c3, by rw [q.pr.cell]; rfl, by rw [q.lf.cell]; rfl, by rw [q.lf.cell]; rfl⟩)
          clear ht hjT hnx hny hnz
          have K00 := hide (below_drew' (Below.refl wj.heap.size wj))
          by_cases hov : vn ≤ op
          case pos =>
           have b1 : decide ((vn : Int) ≤ (op : Int)) = true := by simp; omega
           have b2 : decide (vn ≤ op) = true := by simp; omega
           have hbg : ¬ beginB P op = true := by rw [HBgn.out, show decide ((op : Int) < (vn : Int)) = false by simp; omega]; simp
           have HE := hide (show outD P lwho S Tk (jn + 1) = outD P lwho S Tk jn by rw [HOd1.out, HWD.out, if_neg hbg, List.append_nil])
           clear hov hbg
           obtain ⟨q1, q2, q3, q4, q5, q6⟩ := HC.out wj (Below.refl _ _)
           clear q2 q3 q5 q6
           go_upto_region 18 with fail
           go_quiet (fail)
           generalize hV0 : World.drewN wj _ = V0
           have K0 := hide (show Below wj.heap.size wj V0 by rw [← hV0]; exact below_drewN' (Below.refl _ _) _)
           clear hV0 q1 q4
           go_wp2_with fail
           go_roundw
           case rel => exact ⟨jn + 1, out2, by omega, by go_num, hide (by rw [HE.out]; exact HOt.out), hide (HJ.out.below K0.out)⟩
           case measure => simp [intOf]; omega
          case neg =>
           have b1 : decide ((vn : Int) ≤ (op : Int)) = false := by simp; omega
           have b2 : decide (vn ≤ op) = false := by simp; omega
           have i3 : (0 : Int) ≤ (op : Int) := by omega
           have i4 : (op : Int) < (vn : Int) := by omega
           obtain ⟨pb2, po2, hPA, _, -⟩ := HOpq.out wj HJ.out.bel op (by omega)
           subst hPA
           have HOc := hide (show ∀ V, Below wj.heap.size wj V → V.cell? ⟨pb2, po2 + op * 7, none⟩ = some (.int .i64 (opAt vL op).o.kind) ∧ V.cell? ⟨pb2, po2 + op * 7 + 2, none⟩ = some (.int .i64 (opAt vL op).o.n) from fun V h => by
            obtain ⟨b3, o3, h3, _, z0, z1, z2, _⟩ := HOpq.out V (HJ.out.bel.trans (h.mono HJ.out.bel.size)) op (by omega)
            injection h3 with h3; injection h3 with h4 h5; subst h4 h5
            exact ⟨z0, z2⟩)
           have HKd := hide (show beginB P op = decide ((opAt vL op).o.kind = 2) by rw [HBgn.out, show decide ((op : Int) < (vn : Int)) = true by simp; omega, show decide ((0 : Int) ≤ (op : Int)) = true by simp, show ((op : Int).toNat) = op by omega, HG.out op (by omega)]; rfl)
           have HWn := hide (show beginB P op = true → beginW P lwho op wh = ⟨lwho, op, wh, untilM wh (opAt vL op).o.n, false, 0, 0⟩ from fun h => by rw [HBgw.out _ _ _ h, show ((op : Int).toNat) = op by omega, HG.out op (by omega)])
           have hon := HNnq.out op (by omega)
           obtain ⟨ok, hok⟩ : ∃ ok, ok = (opAt vL op).o.kind := ⟨_, rfl⟩
           obtain ⟨on, hon2⟩ : ∃ on, on = (opAt vL op).o.n := ⟨_, rfl⟩
           rw [← hok, ← hon2] at HOc
           rw [← hok] at HKd
           rw [← hon2] at HWn hon
           clear hov hok hon2
           obtain ⟨q1, q2, q3, q4, q5, q6⟩ := HC.out wj (Below.refl _ _)
           have q7 := (HOc.out wj (Below.refl _ _)).1
           clear q2 q3 q5 q6
           by_cases hk2' : ok = 2
           case neg =>
            have b3 : (ok != 2) = true := by simpa using hk2'
            have hbg : ¬ beginB P op = true := by rw [HKd.out]; simpa using hk2'
            have HE := hide (show outD P lwho S Tk (jn + 1) = outD P lwho S Tk jn by rw [HOd1.out, HWD.out, if_neg hbg, List.append_nil])
            clear hbg hk2'
            go_upto_region 18 with fail
            go_quiet (fail)
            generalize hV0 : World.drewN wj _ = V0
            have K0 := hide (show Below wj.heap.size wj V0 by rw [← hV0]; exact below_drewN' (Below.refl _ _) _)
            clear hV0 q1 q4 q7
            go_wp2_with fail
            go_roundw
            case rel => exact ⟨jn + 1, out2, by omega, by go_num, hide (by rw [HE.out]; exact HOt.out), hide (HJ.out.below K0.out)⟩
            case measure => simp [intOf]; omega
           case pos =>
            have b3 : (ok != 2) = false := by simp [hk2']
            have hbg : beginB P op = true := by rw [HKd.out]; simpa using hk2'
            have HE := hide (show outD P lwho S Tk (jn + 1) = outD P lwho S Tk jn ++ [closeD (beginW P lwho op wh) (S.drop bh)] by rw [HOd1.out, HWD.out, if_pos hbg])
            have HW0 := hide (HWn.out hbg)
            obtain ⟨w00, hw00⟩ : ∃ w00, w00 = beginW P lwho op wh := ⟨_, rfl⟩
            rw [← hw00] at HE HW0
            clear hbg hk2' hw00 HWn HKd HWD HOd1
            go_upto_region 18 with fail
            go_quiet (fail)
            generalize hV0 : World.drewN wj _ = V0
            have K0 := hide (show Below wj.heap.size wj V0 by rw [← hV0]; exact below_drewN' (Below.refl _ _) _)
            clear hV0 q1 q4 q7
            go_upto_region 19 with fail
            obtain ⟨V1, hV0⟩ : ∃ V9, V9 = V0.drew := ⟨_, rfl⟩
            have K1 := hide (show Below wj.heap.size wj V1 by rw [hV0]; exact below_drew' K0.out)
            refine wp_region_held (S := fun w' => w'.cell? ⟨ga, oa + jn, none⟩ = some (.int .i64 (op : Int)) ∧ w'.cell? ⟨gw, ow + jn, none⟩ = some (.int .i64 wh) ∧ w'.cell? ⟨xg, 0, none⟩ = some (.int .i64 lwho)) (by kernel_rfl) ?_
            change wpAnyH _ _ _ _ _ _ _ _ V0.drew
            have hHeld : (fun w' => w'.cell? ⟨ga, oa + jn, none⟩ = some (.int .i64 (op : Int)) ∧ w'.cell? ⟨gw, ow + jn, none⟩ = some (.int .i64 wh) ∧ w'.cell? ⟨xg, 0, none⟩ = some (.int .i64 lwho)) V0.drew := (by rw [← hV0]; exact (show _ ∧ _ ∧ _ from (by obtain ⟨q1, q2, q3, q4, q5, q6⟩ := HC.out _ K1.out; exact ⟨q1, q2, q5⟩)))
            rw [← hV0] at hHeld ⊢
            simp only [List.size_toArray, List.length_cons, List.length_nil, Nat.zero_add, Nat.reduceAdd]
            clear hV0
            refine wpAnyH_take (i := 0) (v := ?_) rfl (by kernel_rfl) (by kernel_rfl) (by kernel_rfl) (fun _ _ _ h => h) (Or.inl ⟨by rfl, ?_⟩) (by assumption) ?_
            rotate_left
            ·(intro w9 hS9; (try simp only [List.getElem_toArray, List.getElem_cons_zero, List.getElem_cons_succ]); go_simp <;> rfl)
            try simp only [Act.put, List.setIfInBounds_toArray, List.set_cons_zero, List.set_cons_succ, List.getElem_toArray, List.getElem_cons_zero, List.getElem_cons_succ]
            refine wpAnyH_take (i := 1) (v := ?_) rfl (by kernel_rfl) (by kernel_rfl) (by kernel_rfl) (fun _ _ _ h => h) (Or.inl ⟨by rfl, ?_⟩) (by assumption) ?_
            rotate_left
            ·(intro w9 hS9; (try simp only [List.getElem_toArray, List.getElem_cons_zero, List.getElem_cons_succ]); go_simp <;> rfl)
            try simp only [Act.put, List.setIfInBounds_toArray, List.set_cons_zero, List.set_cons_succ, List.getElem_toArray, List.getElem_cons_zero, List.getElem_cons_succ]
            refine wpAnyH_take (i := 2) (v := ?_) rfl (by kernel_rfl) (by kernel_rfl) (by kernel_rfl) (fun _ _ _ h => h) (Or.inl ⟨by rfl, ?_⟩) (by assumption) ?_
            rotate_left
            ·(intro w9 hS9; (try simp only [List.getElem_toArray, List.getElem_cons_zero, List.getElem_cons_succ]); go_simp <;> rfl)
            try simp only [Act.put, List.setIfInBounds_toArray, List.set_cons_zero, List.set_cons_succ, List.getElem_toArray, List.getElem_cons_zero, List.getElem_cons_succ]
            refine wpAnyH_take (i := 3) (v := ?_) rfl (by kernel_rfl) (by kernel_rfl) (by kernel_rfl) (fun _ _ _ h => h) (Or.inl ⟨by rfl, ?_⟩) (by assumption) ?_
            rotate_left
            ·(intro w9 hS9; (try simp only [List.getElem_toArray, List.getElem_cons_zero, List.getElem_cons_succ]); go_simp <;> rfl)
            try simp only [Act.put, List.setIfInBounds_toArray, List.set_cons_zero, List.set_cons_succ, List.getElem_toArray, List.getElem_cons_zero, List.getElem_cons_succ]
            refine wpAnyH_take (i := 4) (v := ?_) rfl (by kernel_rfl) (by kernel_rfl) (by kernel_rfl) (fun _ _ _ h => h) (Or.inl ⟨by rfl, ?_⟩) (by assumption) ?_
            rotate_left
            ·(intro w9 hS9; (try simp only [List.getElem_toArray, List.getElem_cons_zero, List.getElem_cons_succ]); go_simp <;> rfl)
            try simp only [Act.put, List.setIfInBounds_toArray, List.set_cons_zero, List.set_cons_succ, List.getElem_toArray, List.getElem_cons_zero, List.getElem_cons_succ]
            refine wpAnyH_take (i := 5) (v := ?_) rfl (by kernel_rfl) (by kernel_rfl) (by kernel_rfl) (fun _ _ _ h => h) (Or.inl ⟨by rfl, ?_⟩) (by assumption) ?_
            rotate_left
            ·(intro w9 hS9; (try simp only [List.getElem_toArray, List.getElem_cons_zero, List.getElem_cons_succ]); go_simp <;> rfl)
            try simp only [Act.put, List.setIfInBounds_toArray, List.set_cons_zero, List.set_cons_succ, List.getElem_toArray, List.getElem_cons_zero, List.getElem_cons_succ]
            refine wpAnyH_take (i := 6) (v := ?_) rfl (by kernel_rfl) (by kernel_rfl) (by kernel_rfl) (fun _ _ _ h => h) (Or.inl ⟨by rfl, ?_⟩) (by assumption) ?_
            rotate_left
            ·(intro w9 hS9; (try simp only [List.getElem_toArray, List.getElem_cons_zero, List.getElem_cons_succ]); go_simp <;> rfl)
            try simp only [Act.put, List.setIfInBounds_toArray, List.set_cons_zero, List.set_cons_succ, List.getElem_toArray, List.getElem_cons_zero, List.getElem_cons_succ]
            refine wpAnyH_take (i := 7) (v := ?_) rfl (by kernel_rfl) (by kernel_rfl) (by kernel_rfl) (fun _ _ _ h => h) (Or.inl ⟨by rfl, ?_⟩) (by assumption) ?_
            rotate_left
            ·(intro w9 hS9; (try simp only [List.getElem_toArray, List.getElem_cons_zero, List.getElem_cons_succ]); go_simp <;> rfl)
            try simp only [Act.put, List.setIfInBounds_toArray, List.set_cons_zero, List.set_cons_succ, List.getElem_toArray, List.getElem_cons_zero, List.getElem_cons_succ]
            refine wpAnyH_take (i := 8) (v := ?_) rfl (by kernel_rfl) (by kernel_rfl) (by kernel_rfl) (fun _ _ _ h => h) (Or.inl ⟨by rfl, ?_⟩) (by assumption) ?_
            rotate_left
            ·(intro w9 hS9; (try simp only [List.getElem_toArray, List.getElem_cons_zero, List.getElem_cons_succ]); go_simp <;> rfl)
            try simp only [Act.put, List.setIfInBounds_toArray, List.set_cons_zero, List.set_cons_succ, List.getElem_toArray, List.getElem_cons_zero, List.getElem_cons_succ]
            refine wpAnyH_take (i := 9) (v := ?_) rfl (by kernel_rfl) (by kernel_rfl) (by kernel_rfl) (fun _ _ _ h => h) (Or.inl ⟨by rfl, ?_⟩) (by assumption) ?_
            rotate_left
            ·(intro w9 hS9; (try simp only [List.getElem_toArray, List.getElem_cons_zero, List.getElem_cons_succ]); go_simp <;> rfl)
            try simp only [Act.put, List.setIfInBounds_toArray, List.set_cons_zero, List.set_cons_succ, List.getElem_toArray, List.getElem_cons_zero, List.getElem_cons_succ]
            refine wpAnyH_take (i := 10) (v := .agg #[.int .i64 lwho, .int .i64 (op : Int), .int .i64 wh, .int .i64 9223372036854775807, .bool false, .int .i64 0, .int .i64 0]) rfl (by kernel_rfl) (by kernel_rfl) (by kernel_rfl) (fun _ _ _ h => h) (Or.inl ⟨by rfl, ?_⟩) (by assumption) ?_
            ·(intro w9 hS9; (try simp only [List.getElem_toArray, List.getElem_cons_zero, List.getElem_cons_succ]); go_simp <;> rfl)
            try simp only [Act.put, List.setIfInBounds_toArray, List.set_cons_zero, List.set_cons_succ, List.getElem_toArray, List.getElem_cons_zero, List.getElem_cons_succ]
            refine wpAnyH_ready (rs := [11]) (by kernel_rfl) (by simp) ?_
            refine AllReadyH.cons rfl (fun K hK => ?_) AllReadyH.nil
            try simp only [List.getElem_toArray, List.getElem_cons_zero, List.getElem_cons_succ]
            try go_simp
            obtain ⟨V2, hV2⟩ : ∃ V9, V9 = V1.alloc (.cells #[.int .i64 0, .int .i64 0, .int .i64 0, .int .i64 0, .bool false, .int .i64 0, .int .i64 0] 102) := ⟨_, rfl⟩
            obtain ⟨xb, hxb⟩ : ∃ g, g = V1.heap.size := ⟨_, rfl⟩
            have K2 := hide (show Below wj.heap.size wj V2 by rw [hV2]; exact K1.out.alloc K1.out.size _)
            have HXz := hide (show Blk V2 xb 102 #[.int .i64 0, .int .i64 0, .int .i64 0, .int .i64 0, .bool false, .int .i64 0, .int .i64 0] by rw [hV2, hxb]; exact Blk.new _ _ _)
            have hxw : wj.heap.size ≤ xb := by rw [hxb]; exact K1.out.size
            rw [← hV2]
            rw [← hxb]
            clear hV2 hxb
            refine hK.out _ _ (by obtain ⟨q1, q2, q3, q4, q5, q6⟩ := HC.out _ K2.out; exact ⟨q1, q2, q5⟩) (fun hHeld => ?_)
            clear hK K
            try simp only [Act.put, List.setIfInBounds_toArray, List.set_cons_zero, List.set_cons_succ, List.getElem_toArray, List.getElem_cons_zero, List.getElem_cons_succ]
            obtain ⟨c0, c1', c2, c3', c4, c5, c6⟩ := HXz.out.seven35
            have f0 := HXz.out.frozen 0
            have f1 := HXz.out.frozen 1
            have f2 := HXz.out.frozen 2
            have f3 := HXz.out.frozen 3
            have f4 := HXz.out.frozen 4
            have f5 := HXz.out.frozen 5
            have f6 := HXz.out.frozen 6
            refine wpAnyH_ready (rs := [12]) (by kernel_rfl) (by simp) ?_
            refine AllReadyH.cons rfl (fun K hK => ?_) AllReadyH.nil
            try simp only [List.getElem_toArray, List.getElem_cons_zero, List.getElem_cons_succ]
            try go_simp
            rw [put7]
            obtain ⟨V3, hV3⟩ : ∃ V9, V9 = putFrom V2 xb 0 [.int .i64 lwho, .int .i64 (op : Int), .int .i64 wh, .int .i64 9223372036854775807, .bool false, .int .i64 0, .int .i64 0] := ⟨_, rfl⟩
            have K3 := hide (show Below wj.heap.size wj V3 by rw [hV3]; exact below_put _ 0 K2.out hxw)
            have HX3 := hide (show Blk V3 xb 102 #[.int .i64 lwho, .int .i64 (op : Int), .int .i64 wh, .int .i64 9223372036854775807, .bool false, .int .i64 0, .int .i64 0] by rw [hV3]; exact HXz.out.put [.int .i64 lwho, .int .i64 (op : Int), .int .i64 wh, .int .i64 9223372036854775807, .bool false, .int .i64 0, .int .i64 0] rfl)
            rw [← hV3]
            clear hV3 c0 c1' c2 c3' c4 c5 c6 f0 f1 f2 f3 f4 f5 f6
            refine hK.out _ _ (by obtain ⟨q1, q2, q3, q4, q5, q6⟩ := HC.out _ K3.out; exact ⟨q1, q2, q5⟩) (fun hHeld => ?_)
            clear hK K
            try simp only [Act.put, List.setIfInBounds_toArray, List.set_cons_zero, List.set_cons_succ, List.getElem_toArray, List.getElem_cons_zero, List.getElem_cons_succ]
            refine wpAnyH_done (by kernel_rfl) ?_ _
            try simp only [Exit.then]
            clear hHeld
            clear HXz
            go_upto_region 20 with fail
            obtain ⟨q1, q2, q3, q4, q5, q6⟩ := HC.out _ K3.out
            have q7 := (HOc.out _ K3.out).2
            clear q2 q3 q5 q6
            go_quiet (fail)
            generalize hV0 : World.drewN V3 _ = V4
            have K4 := hide (show Below wj.heap.size wj V4 by rw [← hV0]; exact below_drewN' K3.out _)
            have HX4 := hide (show Blk V4 xb 102 #[.int .i64 lwho, .int .i64 (op : Int), .int .i64 wh, .int .i64 9223372036854775807, .bool false, .int .i64 0, .int .i64 0] by rw [← hV0]; exact HX3.out.drewN _)
            clear hV0 q1 q4 q7
            clear HX3
            go_upto_if 149 with fail
            go_cut [] from 149 to 156 (fun wx => Hid (Below wj.heap.size wj wx) ∧ Hid (Blk wx xb 102 (encWt w00).toArray))
            case first =>
             by_cases hnv : on = 9223372036854775807
             case pos =>
              have b4 : (on != 9223372036854775807) = false := by simp [hnv]
              have HWe := hide (show (encWt w00).toArray = #[.int .i64 lwho, .int .i64 (op : Int), .int .i64 wh, .int .i64 9223372036854775807, .bool false, .int .i64 0, .int .i64 0] by rw [HW0.out, hnv]; rfl)
              clear hnv
              go_wp2_with fail
              go_meet
              exact ⟨K4, by rw [HWe.out]; exact HX4⟩
             case neg =>
              have b4 : (on != 9223372036854775807) = true := by simpa using hnv
              have HWe := hide (show (encWt w00).toArray = #[.int .i64 lwho, .int .i64 (op : Int), .int .i64 wh, .int .i64 (addT wh on), .bool false, .int .i64 0, .int .i64 0] by rw [HW0.out]; unfold untilM; rw [if_neg hnv]; rfl)
              have HAd := hide (fun w' => refAdd_c wh on w' t2 hon)
              obtain ⟨ad, had⟩ : ∃ ad, ad = addT wh on := ⟨_, rfl⟩
              rw [← had] at HWe HAd
              obtain ⟨q1, q2, q3, q4, q5, q6⟩ := HC.out _ K4.out
              have c3' : V4.cell? ⟨xb, 3, none⟩ = some (.int .i64 9223372036854775807) := by rw [HX4.out.cell]; rfl
              have f3 := HX4.out.frozen 3
              clear hnv had q1 q3 q4 q5 q6
              go_wp2_with fail
              refine (HAd.out _).mono ?_
              rintro e V5 ⟨rfl, rfl⟩
              go_wp2_with fail
              go_meet
              refine ⟨hide (K4.out.setCell (p := ⟨xb, 3, none⟩) hxw _), hide ?_⟩
              rw [HWe.out]
              exact HX4.out.set_ 3 _
            case rest =>
             obtain ⟨HKc, HXc⟩ := hcut
             obtain ⟨q1, q2, q3, q4, q5, q6⟩ := HC.out _ HKc.out
             have w11 : IntKind.i64.wrap ((k2 : Int) - 1) = (k2 : Int) - 1 := IntWalk.i64_in _ (by omega)
             clear K4 HX4 q1 q2 q3 q4 q5
             go_wp2_with fail
             go_loopw [19] (fun kv w3 => ∃ q2 : Nat, bh ≤ q2 ∧ q2 ≤ k2 ∧ kv = .int .i64 ((q2 : Int) - 1) ∧ Hid (Below wj.heap.size wj w3) ∧ Hid (Blk w3 xb 102 (encWt (scanW w00 S q2)).toArray)) (fun kv _ => (intOf kv + 1).toNat)
             case atStart => exact ⟨k2, t3, Nat.le_refl _, rfl, HKc, by rw [Hsl.out, scanW_end]; exact HXc⟩
             case round =>
              clear HKc HXc q6
              obtain ⟨q2, hbq, hqk, rfl, HK, HX⟩ := hrel
              obtain ⟨a1, a2, a3, a4, a5, a6⟩ := HC.out _ HK.out
              by_cases hq : bh < q2
              case neg =>
               obtain rfl : q2 = bh := by omega
               have e7 : decide ((q2 : Int) ≤ (q2 : Int) - 1) = false := by simp; omega
               obtain ⟨W, hW⟩ : ∃ W, W = closeD w00 (S.drop q2) := ⟨_, rfl⟩
               have HXW := hide (show Blk wr xb 102 (encWt W).toArray by rw [hW]; exact HX.out)
               have HE2 := hide (show out2 ++ [W] = out ++ outD P lwho S Tk (jn + 1) by rw [HE.out, HOt.out, hW, List.append_assoc])
               have HNew := hide (rd_blkN (M := NoBlk) (Blk.new wr 102 (encWt W).toArray) (fun h => h))
               have HJ2 := hide ((HJ.out.below HK.out).below (below_alloc wr (.cells (encWt W).toArray 102)))
               obtain ⟨y0, y1, y2, y3, y4, y5, y6⟩ := (show Blk wr xb 102 #[.int .i64 W.id, .int .i64 W.op, .int .i64 W.from_, .int .i64 W.until_, .bool W.done, .int .i64 W.at_, .int .i64 W.what] from HXW.out).seven35
               have hsz9 : w.heap.size ≤ (wr.alloc (.cells (encWt W).toArray 102)).heap.size := HJ2.out.bel.size
               have HSz9 := hide hsz9
               clear a1 a2 a4 a5 a6 hW hsz9 HE
               go_upto_region 29 with fail
               go_wp2_with (at_builtin; refine wpList_append_rd _ rfl (.tmp 189) (.tmp 191) _ rfl w.heap.size 102 il _ 7 56 Tryz.underlying56 hil hlz0 hlz1 hlz2 rfl (by omega) _ out2.length _ rfl HJ2.out.oo NoBlk (some ⟨wr.heap.size, 0, none⟩) 1 1 (encWt W) rfl HNew.out rfl (encWt_one _) (by simp only [maxLen]; omega) (by omega) HSz9.out ?_; intro v2 wb hown2 hgr how; have HJ3 := hide (HJ2.out.grow HMn.out hgr hown2 how); clear hown2 hgr how)
               go_roundw
               case rel => exact ⟨jn + 1, out2 ++ [W], by omega, by go_num, HE2, HJ3⟩
               case measure => simp [intOf]; omega
              case pos =>
               obtain ⟨q3, rfl⟩ : ∃ q3, q2 = q3 + 1 := ⟨q2 - 1, by omega⟩
               have e8 : ((q3 + 1 : Nat) : Int) - 1 = (q3 : Int) := by omega
               rw [e8]
               have e7 : decide ((bh : Int) ≤ (q3 : Int)) = true := by simp; omega
               have e9 : decide (bh ≤ q3) = true := by simp; omega
               have e10 : (0 : Int) ≤ (q3 : Int) := by omega
               have e11 : (q3 : Int) < (k2 : Int) := by omega
               have w12 : IntKind.i64.wrap ((q3 : Int) - 1) = (q3 : Int) - 1 := IntWalk.i64_in _ (by omega)
               obtain ⟨sb, so, hLB, hsb, y0, y1, y2, y3, y4, y5⟩ := stp35_cells (HJ.out.below HK.out).st q3 (by rw [← Hsl.out]; omega)
               subst hLB
               have HSc := hide (scanW_succ w00 S q3 (by rw [← Hsl.out]; omega))
               obtain ⟨x, hx⟩ : ∃ x, x = stAt S q3 := ⟨_, rfl⟩
               rw [← hx] at y0 y1 y2 y3 y4 y5 HSc
               clear hx e8
               obtain ⟨st, sa, sw, sr, sn2, ss⟩ := x
               simp only at y0 y1 y2 y3 y4 y5
               obtain ⟨wq, hwq⟩ : ∃ wq, wq = scanW w00 S (q3 + 1) := ⟨_, rfl⟩
               rw [← hwq] at HX HSc
               have HL := hide (show isLook ⟨st, sa, sw, sr, sn2, ss⟩ = (decide (sw = 1) || decide (sw = 5)) from rfl)
               have hbq2 : bh ≤ q3 := by omega
               clear hwq a1 a2 a4 a5 hq
               go_upto_region 27 with fail
               obtain ⟨V5, hV5⟩ : ∃ V9, V9 = wr.alloc (.cells #[.int .i64 st, .int .i64 sa, .int .i64 sw, .int .i64 sr, .int .i64 sn2, .int .i64 ss] 26) := ⟨_, rfl⟩
               obtain ⟨sg, hsg⟩ : ∃ g, g = wr.heap.size := ⟨_, rfl⟩
               have K5 := hide (show Below wj.heap.size wj V5 by rw [hV5]; exact HK.out.alloc HK.out.size _)
               have HX5 := hide (show Blk V5 xb 102 (encWt wq).toArray by rw [hV5]; exact HX.out.alloc _)
               have HS5 := hide (show Blk V5 sg 26 #[.int .i64 st, .int .i64 sa, .int .i64 sw, .int .i64 sr, .int .i64 sn2, .int .i64 ss] by rw [hV5, hsg]; exact Blk.new _ _ _)
               rw [← hV5, ← hsg]
               clear hV5 hsg y0 y1 y2 y3 y4 y5 a3 a6 HK HX
               have z2 : V5.cell? ⟨sg, 2, none⟩ = some (.int .i64 sw) := by rw [HS5.out.cell]; rfl
               by_cases h1 : sw = 1
               case pos =>
                have b5 : (sw != 1) = false := by simp [h1]
                have HF := hide (show scanW w00 S q3 = wq by rw [HSc.out, if_pos (by rw [HL.out]; simp [h1])])
                clear h1
                go_wp2_with fail
                go_roundw
                case rel => exact ⟨q3, hbq2, by omega, rfl, K5, by rw [HF.out]; exact HX5⟩
                case measure => simp [intOf]
               case neg =>
                have b5 : (sw != 1) = true := by simpa using h1
                by_cases h5 : sw = 5
                case pos =>
                 have b6 : (sw != 5) = false := by simp [h5]
                 have HF := hide (show scanW w00 S q3 = wq by rw [HSc.out, if_pos (by rw [HL.out]; simp [h5])])
                 clear h1 h5
                 go_wp2_with fail
                 go_roundw
                 case rel => exact ⟨q3, hbq2, by omega, rfl, K5, by rw [HF.out]; exact HX5⟩
                 case measure => simp [intOf]
                case neg =>
                 have b6 : (sw != 5) = true := by simpa using h5
                 have HF := hide (show scanW w00 S q3 = closeW wq ⟨st, sa, sw, sr, sn2, ss⟩ by rw [HSc.out, if_neg (by rw [HL.out]; simp [h1, h5])])
                 clear h1 h5
                 go_upto_region 28 with fail
                 obtain ⟨V6, hV0⟩ : ∃ V9, V9 = V5.drew := ⟨_, rfl⟩
                 have K6 := hide (show Below wj.heap.size wj V6 by rw [hV0]; exact below_drew' K5.out)
                 have HX6 := hide (show Blk V6 xb 102 #[.int .i64 wq.id, .int .i64 wq.op, .int .i64 wq.from_, .int .i64 wq.until_, .bool wq.done, .int .i64 wq.at_, .int .i64 wq.what] by rw [hV0]; exact HX5.out.drew)
                 have HS6 := hide (show Blk V6 sg 26 #[.int .i64 st, .int .i64 sa, .int .i64 sw, .int .i64 sr, .int .i64 sn2, .int .i64 ss] by rw [hV0]; exact HS5.out.drew)
                 have HNe := hide (Blk.ne_ HS6.out HX6.out (by decide))
                 clear z2
                 refine wp_region_held (S := fun w' => w'.cell? ⟨sg, 0, none⟩ = some (.int .i64 st) ∧ w'.cell? ⟨sg, 2, none⟩ = some (.int .i64 sw)) (by kernel_rfl) ?_
                 change wpAnyH _ _ _ _ _ _ _ _ V5.drew
                 have hHeld : (fun w' => w'.cell? ⟨sg, 0, none⟩ = some (.int .i64 st) ∧ w'.cell? ⟨sg, 2, none⟩ = some (.int .i64 sw)) V5.drew := (by rw [← hV0]; exact (show _ ∧ _ from ⟨by rw [HS6.out.cell]; rfl, by rw [HS6.out.cell]; rfl⟩))
                 rw [← hV0] at hHeld ⊢
                 simp only [List.size_toArray, List.length_cons, List.length_nil, Nat.zero_add, Nat.reduceAdd]
                 clear hV0
                 refine wpAnyH_take (i := 0) (v := ?_) rfl (by kernel_rfl) (by kernel_rfl) (by kernel_rfl) (fun _ _ _ h => h) (Or.inl ⟨by rfl, ?_⟩) (by assumption) ?_
                 rotate_left
                 ·(intro w9 hS9; (try simp only [List.getElem_toArray, List.getElem_cons_zero, List.getElem_cons_succ]); go_simp <;> rfl)
                 try simp only [Act.put, List.setIfInBounds_toArray, List.set_cons_zero, List.set_cons_succ, List.getElem_toArray, List.getElem_cons_zero, List.getElem_cons_succ]
                 refine wpAnyH_take (i := 1) (v := ?_) rfl (by kernel_rfl) (by kernel_rfl) (by kernel_rfl) (fun _ _ _ h => h) (Or.inl ⟨by rfl, ?_⟩) (by assumption) ?_
                 rotate_left
                 ·(intro w9 hS9; (try simp only [List.getElem_toArray, List.getElem_cons_zero, List.getElem_cons_succ]); go_simp <;> rfl)
                 try simp only [Act.put, List.setIfInBounds_toArray, List.set_cons_zero, List.set_cons_succ, List.getElem_toArray, List.getElem_cons_zero, List.getElem_cons_succ]
                 refine wpAnyH_take (i := 2) (v := ?_) rfl (by kernel_rfl) (by kernel_rfl) (by kernel_rfl) (fun _ _ _ h => h) (Or.inl ⟨by rfl, ?_⟩) (by assumption) ?_
                 rotate_left
                 ·(intro w9 hS9; (try simp only [List.getElem_toArray, List.getElem_cons_zero, List.getElem_cons_succ]); go_simp <;> rfl)
                 try simp only [Act.put, List.setIfInBounds_toArray, List.set_cons_zero, List.set_cons_succ, List.getElem_toArray, List.getElem_cons_zero, List.getElem_cons_succ]
                 refine wpAnyH_take (i := 3) (v := ?_) rfl (by kernel_rfl) (by kernel_rfl) (by kernel_rfl) (fun _ _ _ h => h) (Or.inl ⟨by rfl, ?_⟩) (by assumption) ?_
                 rotate_left
                 ·(intro w9 hS9; (try simp only [List.getElem_toArray, List.getElem_cons_zero, List.getElem_cons_succ]); go_simp <;> rfl)
                 try simp only [Act.put, List.setIfInBounds_toArray, List.set_cons_zero, List.set_cons_succ, List.getElem_toArray, List.getElem_cons_zero, List.getElem_cons_succ]
                 refine wpAnyH_take (i := 4) (v := ?_) rfl (by kernel_rfl) (by kernel_rfl) (by kernel_rfl) (fun _ _ _ h => h) (Or.inl ⟨by rfl, ?_⟩) (by assumption) ?_
                 rotate_left
                 ·(intro w9 hS9; (try simp only [List.getElem_toArray, List.getElem_cons_zero, List.getElem_cons_succ]); go_simp <;> rfl)
                 try simp only [Act.put, List.setIfInBounds_toArray, List.set_cons_zero, List.set_cons_succ, List.getElem_toArray, List.getElem_cons_zero, List.getElem_cons_succ]
                 have g7 := HX6.out.frozen 4
                 have z7 : V6.cell? ⟨xb, 4, none⟩ = some _ := HX6.out.cell 4
                 refine wpAnyH_ready (rs := [5]) (by kernel_rfl) (by simp) ?_
                 refine AllReadyH.cons rfl (fun K hK => ?_) AllReadyH.nil
                 try simp only [List.getElem_toArray, List.getElem_cons_zero, List.getElem_cons_succ]
                 try go_simp
                 obtain ⟨V7, hV7⟩ : ∃ V9, V9 = V6.setCell ⟨xb, 4, none⟩ (.bool true) := ⟨_, rfl⟩
                 have K7 := hide (show Below wj.heap.size wj V7 by rw [hV7]; exact K6.out.setCell (p := ⟨xb, 4, none⟩) hxw _)
                 have HX7 := hide (show Blk V7 xb _ _ by rw [hV7]; exact HX6.out.set_ 4 (.bool true))
                 have HS7 := hide (show Blk V7 sg 26 #[.int .i64 st, .int .i64 sa, .int .i64 sw, .int .i64 sr, .int .i64 sn2, .int .i64 ss] by rw [hV7]; exact HS6.out.far (p := ⟨xb, 4, none⟩) HNe.out _)
                 rw [← hV7]
                 clear hV7 g7 z7
                 refine hK.out _ _ ⟨by rw [HS7.out.cell]; rfl, by rw [HS7.out.cell]; rfl⟩ (fun hHeld => ?_)
                 clear hK K
                 try simp only [Act.put, List.setIfInBounds_toArray, List.set_cons_zero, List.set_cons_succ, List.getElem_toArray, List.getElem_cons_zero, List.getElem_cons_succ]
                 refine wpAnyH_take (i := 6) (v := ?_) rfl (by kernel_rfl) (by kernel_rfl) (by kernel_rfl) (fun _ _ _ h => h) (Or.inl ⟨by rfl, ?_⟩) (by assumption) ?_
                 rotate_left
                 ·(intro w9 hS9; (try simp only [List.getElem_toArray, List.getElem_cons_zero, List.getElem_cons_succ]); go_simp <;> rfl)
                 try simp only [Act.put, List.setIfInBounds_toArray, List.set_cons_zero, List.set_cons_succ, List.getElem_toArray, List.getElem_cons_zero, List.getElem_cons_succ]
                 have g8 := HX7.out.frozen 5
                 have z8 : V7.cell? ⟨xb, 5, none⟩ = some _ := HX7.out.cell 5
                 refine wpAnyH_ready (rs := [7]) (by kernel_rfl) (by simp) ?_
                 refine AllReadyH.cons rfl (fun K hK => ?_) AllReadyH.nil
                 try simp only [List.getElem_toArray, List.getElem_cons_zero, List.getElem_cons_succ]
                 try go_simp
                 obtain ⟨V8, hV8⟩ : ∃ V9, V9 = V7.setCell ⟨xb, 5, none⟩ (.int .i64 st) := ⟨_, rfl⟩
                 have K8 := hide (show Below wj.heap.size wj V8 by rw [hV8]; exact K7.out.setCell (p := ⟨xb, 5, none⟩) hxw _)
                 have HX8 := hide (show Blk V8 xb _ _ by rw [hV8]; exact HX7.out.set_ 5 (.int .i64 st))
                 have HS8 := hide (show Blk V8 sg 26 #[.int .i64 st, .int .i64 sa, .int .i64 sw, .int .i64 sr, .int .i64 sn2, .int .i64 ss] by rw [hV8]; exact HS7.out.far (p := ⟨xb, 5, none⟩) HNe.out _)
                 rw [← hV8]
                 clear hV8 g8 z8
                 refine hK.out _ _ ⟨by rw [HS8.out.cell]; rfl, by rw [HS8.out.cell]; rfl⟩ (fun hHeld => ?_)
                 clear hK K
                 try simp only [Act.put, List.setIfInBounds_toArray, List.set_cons_zero, List.set_cons_succ, List.getElem_toArray, List.getElem_cons_zero, List.getElem_cons_succ]
                 refine wpAnyH_take (i := 8) (v := ?_) rfl (by kernel_rfl) (by kernel_rfl) (by kernel_rfl) (fun _ _ _ h => h) (Or.inl ⟨by rfl, ?_⟩) (by assumption) ?_
                 rotate_left
                 ·(intro w9 hS9; (try simp only [List.getElem_toArray, List.getElem_cons_zero, List.getElem_cons_succ]); go_simp <;> rfl)
                 try simp only [Act.put, List.setIfInBounds_toArray, List.set_cons_zero, List.set_cons_succ, List.getElem_toArray, List.getElem_cons_zero, List.getElem_cons_succ]
                 have g9 := HX8.out.frozen 6
                 have z9 : V8.cell? ⟨xb, 6, none⟩ = some _ := HX8.out.cell 6
                 refine wpAnyH_ready (rs := [9]) (by kernel_rfl) (by simp) ?_
                 refine AllReadyH.cons rfl (fun K hK => ?_) AllReadyH.nil
                 try simp only [List.getElem_toArray, List.getElem_cons_zero, List.getElem_cons_succ]
                 try go_simp
                 obtain ⟨V9, hV9⟩ : ∃ V9, V9 = V8.setCell ⟨xb, 6, none⟩ (.int .i64 sw) := ⟨_, rfl⟩
                 have K9 := hide (show Below wj.heap.size wj V9 by rw [hV9]; exact K8.out.setCell (p := ⟨xb, 6, none⟩) hxw _)
                 have HX9 := hide (show Blk V9 xb _ _ by rw [hV9]; exact HX8.out.set_ 6 (.int .i64 sw))
                 have HS9 := hide (show Blk V9 sg 26 #[.int .i64 st, .int .i64 sa, .int .i64 sw, .int .i64 sr, .int .i64 sn2, .int .i64 ss] by rw [hV9]; exact HS8.out.far (p := ⟨xb, 6, none⟩) HNe.out _)
                 rw [← hV9]
                 clear hV9 g9 z9
                 refine hK.out _ _ ⟨by rw [HS9.out.cell]; rfl, by rw [HS9.out.cell]; rfl⟩ (fun hHeld => ?_)
                 clear hK K
                 try simp only [Act.put, List.setIfInBounds_toArray, List.set_cons_zero, List.set_cons_succ, List.getElem_toArray, List.getElem_cons_zero, List.getElem_cons_succ]
                 refine wpAnyH_done (by kernel_rfl) ?_ _
                 try simp only [Exit.then]
                 clear hHeld
                 go_wp2_with fail
                 go_roundw
                 case rel => exact ⟨q3, hbq2, by omega, rfl, K9, by rw [HF.out]; exact HX9⟩
                 case measure => simp [intOf]
end Go.Proofs.YtdmdohjdmnmabaaGreat
