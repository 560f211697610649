/- All matches, by the program. Conditions: those of each theorem. -/
import Derived.Test.YtdmdohjdmnmabaaGreatQp26
import Derived.Test.YtdmdohjdmnmabaaGreatQp30
namespace Go.Proofs.YtdmdohjdmnmabaaGreat
open Go.RowKit
set_option linter.unusedVariables false
set_option linter.unusedSimpArgs false

theorem sm_seen (p : ProgM) (id : Int) (l : List Ev) (hx : ∀ x ∈ l, x.s.size ≤ 100) : ∀ k, k ≤ l.length → PwSm (seenM p id (l.take k)) k := by
  intro k
  induction k with
  | zero => intro _; exact ⟨by simp [seenM, pw0], by simp [seenM, pw0], by simp [seenM, pw0], by simp [seenM, pw0], by simp [seenM, pw0], by simp [seenM, pw0], by simp [seenM, pw0], by simp [seenM, pw0], by simp [seenM, pw0]⟩
  | succ k ih =>
    intro hk
    rw [seen_succ p id l k (by omega)]
    exact sm_see (ih (by omega)) (hx _ (List.mem_of_getElem? (evAt_some (show k < l.length by omega))))
theorem flat_one {α : Type} {enc : α → List Value} (h : ∀ a, ∀ u ∈ enc a, u.oneCell' = true) (l : List α) : ∀ u ∈ flat enc l, u.oneCell' = true := by
  intro u hu
  unfold flat at hu
  rw [List.mem_flatten] at hu
  obtain ⟨r, hr, hu⟩ := hu
  obtain ⟨a, _, rfl⟩ := List.mem_map.1 hr
  exact h a u hu
def lagsP (l : List Ev) (v : PrV) (id : Int) : List LagM := lagsM (prM v) id l
theorem lags_le (l : List Ev) (hx : ∀ x ∈ l, x.s.size ≤ 100) (v : PrV) (id : Int) : (lagsP l v id).length ≤ l.length := by
  have := (sm_seen (prM v) id l hx l.length (Nat.le_refl _)).o
  rw [List.take_length] at this
  exact this
/-- all matches -/
def promptM (Ps : List PrV) (l : List Ev) : List LagM := perM Ps l (lagsP l) (idsL l)
set_option maxRecDepth 100000 in
set_option maxHeartbeats 25600000 in
theorem prompt_c (SA : Option Addr) (sc : Nat) (Ps : List PrV) (A : Option Addr) (c : Nat) (l : List Ev) (w : World) (hs : PrsRd w NoBlk SA Ps) (hsn : Ps.length ≤ maxLen) (hsz : ∀ v ∈ Ps, PrSz v) (hr : Rd w NoBlk A (flat encEv l)) (hn : l.length ≤ 1000) (hx : ∀ x ∈ l, x.s.size ≤ 100) (hlc : l.length ≤ c) :
    Calls Tryz.prog 47 #[.slice SA Ps.length sc, .slice A l.length c] w fun e w' => (∃ v, e = .returned v ∧ w'.ownsRow w.heap.size 96 6 v (promptM Ps l).length (flat encLag (promptM Ps l))) ∧ Only NoBlk w w' := by
  obtain ⟨il, hil, hlz0, hlz1, hlz2⟩ := info_parts Tryz.infoLag
  have hsn' : Ps.length ≤ 9223372036854775807 := hsn
  have HIds := hide (fun (w' : World) (k : Only NoBlk w w') => by
    have := Ids_c NoBlk A c l w' (hr.only k (fun _ h => h)) (by omega) (fun k h => h.elim)
    rw [show Lib.compact ((openedL l).mergeSort fun x y => decide (x ≤ y)) = idsL l from (ids_uniq l).symm] at this
    exact this)
  have HOf := hide (fun (id : Int) (w' : World) (k : Only NoBlk w w') => Of_c NoBlk A c l id w' (hr.only k (fun _ h => h)) (by omega) hx hlc (fun k h => h.elim))
  have HEv := hide (fun (w' : World) (k : Only NoBlk w w') (i : Nat) (hi : i < l.length) => ev_cells (hr.only k (fun _ h => h)) i hi)
  have HPr := hide (fun (w' : World) (k : Only NoBlk w w') (i : Nat) (hi : i < Ps.length) => pr_cells ((hs.only k (fun _ h => h)).1) i hi)
  have HGood := hide (fun (w' : World) (k : Only NoBlk w w') (i : Nat) (hi : i < Ps.length) => pGood_c (prAt Ps i).s (prAt Ps i).d (prAt Ps i).j (prAt Ps i).PA (prAt Ps i).pc (prAt Ps i).L w' ((hs.only k (fun _ h => h)).2 _ (prAt_mem hi)) (hsz _ (prAt_mem hi)).1 (hsz _ (prAt_mem hi)).2.1 (hsz _ (prAt_mem hi)).2.2)
  have HOps := hide (fun (w' : World) (k : Only NoBlk w w') (i : Nat) (hi : i < Ps.length) => (hs.only k (fun _ h => h)).2 _ (prAt_mem hi))
  have HSz := hide (fun (i : Nat) (hi : i < Ps.length) => hsz _ (prAt_mem hi))
  have HX := hide hx
  have hile := ids_le l
  have hpl := per_len Ps l (lagsP l) l.length (lags_le l hx)
  have HPm := hide (show promptM Ps l = perM Ps l (lagsP l) (idsL l) from rfl)
  obtain ⟨N, hN⟩ : ∃ N, N = (idsL l).length := ⟨_, rfl⟩
  obtain ⟨n, hnl⟩ : ∃ n, n = l.length := ⟨_, rfl⟩
  obtain ⟨np, hnp⟩ : ∃ np, np = Ps.length := ⟨_, rfl⟩
  have HN := hide hN
  have Hnl := hide hnl
  have Hnp := hide hnp
  obtain ⟨T, hT⟩ : ∃ T, T = promptM Ps l := ⟨_, rfl⟩
  rw [← hT] at HPm ⊢
  rw [← hN] at HIds hile
  rw [← hnl] at HIds HOf HEv hn hlc hile hpl ⊢
  rw [← hnp] at HPr HGood HOps HSz hsn' ⊢
  have HPL := hide hpl
  clear hs hsn hsz hr hx hN hnl hnp hpl hT
  go_enter Tryz.func47, Tryz.ntmps47
  go_wp2_with fail
  refine (HIds.out _ (Only.refl _ w)).mono ?_
  rintro e w1 ⟨hb1, A1, c1, rfl, hr1⟩
  have HB1 := hide hb1
  have HO1 := hide (Only.of_below hb1 NoBlk)
  have HR1 := hide hr1
  clear hb1 hr1
  go_wp2_with fail
  go_loopw [5, 16] (fun v i wr => ∃ (k : Nat) (out : List LagM), k ≤ N ∧ i = .int .i64 k ∧ Hid (perM Ps l (lagsP l) ((idsL l).take k) = out) ∧ Hid (wr.ownsRow w1.heap.size 96 6 v out.length (flat encLag out)) ∧ Hid (Only NoBlk w1 wr)) (fun _ i _ => N - (intOf i).toNat)
  case atStart => exact ⟨0, [], Nat.zero_le _, rfl, hide (by simp [perM]), hide (own_nil (Nat.le_refl _)), hide (Only.refl _ _)⟩
  case round =>
    obtain ⟨k, out, hk, rfl, hout, hown, ho⟩ := hrel
    obtain ⟨OA, oc, rfl, hoc⟩ := own_cap hown.out
    have hol : out.length ≤ 1000000 := by
      have h1 := HPL.out ((idsL l).take k)
      rw [hout.out, List.length_take, ← HN.out] at h1
      have h2 : min k N ≤ 1000 := by omega
      have h3 : min k N * n ≤ 1000 * 1000 := Nat.mul_le_mul h2 hn
      omega
    obtain ⟨m, hm⟩ : ∃ m, m = out.length := ⟨_, rfl⟩
    rw [← hm] at hown hol hoc ⊢
    have Hm := hide hm
    clear hm
    by_cases hlt : k < N
    case neg =>
      obtain rfl : k = N := by omega
      have hd : decide ((k : Int) < (k : Int)) = false := by simp
      have hd2 : decide (k < k) = false := by simp
      have HF := hide (show T = out by rw [HPm.out, ← hout.out, HN.out, List.take_length])
      go_wp2_with fail
      go_ret
      rw [HF.out, ← Hm.out]
      exact ⟨⟨_, rfl, own_base hown.out HO1.out.size⟩, HO1.out.trans ho.out⟩
    case pos =>
      have HF := hide (per_succ Ps l (lagsP l) (idsL l) k (by rw [← HN.out]; exact hlt))
      obtain ⟨b, oo, rfl, hb, g0⟩ := id_cell (HR1.out.only ho.out (fun _ h => h)) k (by rw [← HN.out]; exact hlt)
      obtain ⟨id, hid⟩ : ∃ id, id = nth (idsL l) k := ⟨_, rfl⟩
      rw [← hid] at g0 HF
      have d1 : decide ((k : Int) < (N : Int)) = true := by simp; exact hlt
      have d2 : decide (k < N) = true := by simp; exact hlt
      have j1 : (0 : Int) ≤ (k : Int) := by omega
      have j2 : (k : Int) < (N : Int) := by omega
      have w0 : IntKind.i64.wrap ((k : Int) + 1) = (k : Int) + 1 := IntWalk.i64_in _ (by omega)
      have HOw := hide (HO1.out.trans ho.out)
      have HOfr := hide (HOf.out id wr HOw.out)
      have hszr : w1.heap.size ≤ wr.heap.size := ho.out.size
      clear hid
      go_wp2_with fail
      refine HOfr.out.mono ?_
      intro e w3 he
      obtain ⟨hb3, LA, lc, LB, ld, rfl, _, _⟩ := ret_one he
      obtain ⟨sn, hsn2⟩ : ∃ sn, sn = scrN l id := ⟨_, rfl⟩
      have hsn3 : (lifeO (lifeGo id 0 l)).script = sn := hsn2.symm
      rw [hsn3]
      obtain ⟨i0, hi0⟩ : ∃ i0, i0 = (lifeO (lifeGo id 0 l)).ins.length := ⟨_, rfl⟩
      obtain ⟨s0, hs0⟩ : ∃ s0, s0 = (lifeO (lifeGo id 0 l)).steps.length := ⟨_, rfl⟩
      rw [← hi0, ← hs0]
      generalize (lifeO (lifeGo id 0 l)).start = lstart
      generalize (lifeO (lifeGo id 0 l)).read = lread
      generalize (lifeO (lifeGo id 0 l)).taken = ltaken
      generalize (lifeO (lifeGo id 0 l)).eof = leof
      generalize (lifeO (lifeGo id 0 l)).status = lstatus
      generalize whoL id (lifeGo id 0 l) = lwho
      generalize (lifeGo id 0 l).isSome = lis
      have HO3 := hide (ho.out.trans (Only.of_below hb3 NoBlk))
      have HOwn3 := hide (own_only hown.out (Only.of_below hb3 NoBlk) (fun _ _ h => h.elim))
      clear he hb3 hi0 hs0 hsn3 g0 HOfr HOw ho hown
      have HSB := hide (show scrB Ps l id = ((decide (0 ≤ sn) && decide (sn < Ps.length)) && goodM (prM (prAt Ps sn.toNat))) by unfold scrB; rw [← hsn2])
      rw [← Hnp.out] at HSB
      rw [← hsn2] at HF
      clear hsn2

      go_upto_region 6 with fail
      obtain ⟨W4, hW4⟩ : ∃ W4, W4 = w3.alloc (.cells #[.int .i64 lwho, .int .i64 sn, .int .i64 lstart, .slice LA i0 lc, .slice LB s0 ld, .string lread, .string ltaken, .bool leof, .int .i64 lstatus] 118) := ⟨_, rfl⟩
      have HLf := hide (show Blk W4 w3.heap.size 118 #[.int .i64 lwho, .int .i64 sn, .int .i64 lstart, .slice LA i0 lc, .slice LB s0 ld, .string lread, .string ltaken, .bool leof, .int .i64 lstatus] by rw [hW4]; exact Blk.new _ _ _)
      have HO4 := hide (show Only NoBlk w1 W4 by rw [hW4]; exact HO3.out.alloc _)
      have HOwn4 := hide (show W4.ownsRow w1.heap.size 96 6 (.slice OA m oc) m (flat encLag out) by rw [hW4]; exact HOwn3.out.alloc _)
      rw [← hW4]
      clear hW4 HO3 HOwn3
      obtain ⟨⟨x0, x1, x2, x3, x4, x5, x6, x7, x8⟩, _⟩ := HLf.out.nine
      go_cut [44] from 26 to 43 (fun v wx => v = .bool (!scrB Ps l id) ∧ Hid (Only NoBlk W4 wx))
      case first =>
        by_cases hs0 : sn < 0
        · have b0 : decide (sn < 0) = true := by simp [hs0]
          have HQ := hide (show scrB Ps l id = false by rw [HSB.out, show decide (0 ≤ sn) = false by simp; omega]; rfl)
          clear hs0
          go_wp2_with fail
          go_meet
          exact ⟨by rw [HQ.out]; rfl, hide (Only.refl _ _)⟩
        · have b0 : decide (sn < 0) = false := by simp; omega
          by_cases hs1 : (np : Int) ≤ sn
          · have b1 : decide ((np : Int) ≤ sn) = true := by simp [hs1]
            have HQ := hide (show scrB Ps l id = false by rw [HSB.out, show decide (sn < (np : Int)) = false by simp; omega]; simp)
            clear hs0 hs1
            go_wp2_with fail
            go_meet
            exact ⟨by rw [HQ.out]; rfl, hide (Only.refl _ _)⟩
          · have b1 : decide ((np : Int) ≤ sn) = false := by simp; omega
            obtain ⟨q, hq⟩ : ∃ q : Nat, sn = q := ⟨sn.toNat, by omega⟩
            subst hq
            have hqn : q < np := by omega
            have hqt : ((q : Int).toNat) = q := by omega
            rw [hqt] at HSB
            have HQ := hide (show scrB Ps l id = goodM (prM (prAt Ps q)) by rw [HSB.out, show decide ((0 : Int) ≤ (q : Int)) = true by simp, show decide ((q : Int) < (np : Int)) = true by simp; omega]; rfl)
            have HGq := hide (fun (w' : World) (k : Only NoBlk w w') => HGood.out w' k q hqn)
            obtain ⟨pb, po, rfl, hpb, p0, p1, p2, p3⟩ := HPr.out W4 (HO1.out.trans HO4.out) q hqn
            obtain ⟨gd, hgd⟩ : ∃ gd, gd = goodM (prM (prAt Ps q)) := ⟨_, rfl⟩
            have hgd' : goodM (progM (prAt Ps q).s (prAt Ps q).d (prAt Ps q).j (prAt Ps q).L) = gd := hgd.symm
            rw [hgd'] at HGq
            rw [← hgd] at HQ
            clear hgd hgd' hs0 hs1
            obtain ⟨v, hv⟩ : ∃ v, v = prAt Ps q := ⟨_, rfl⟩
            rw [← hv] at p0 p1 p2 p3 HGq
            obtain ⟨vs, vd, vj, vPA, vpc, vL⟩ := v
            obtain ⟨vn, hvn⟩ : ∃ vn, vn = vL.length := ⟨_, rfl⟩
            simp only at p0 p1 p2 p3 HGq
            rw [← hvn] at p3 HGq
            clear hvn hv
            have i1 : (0 : Int) ≤ (q : Int) := by omega
            have i2 : (q : Int) < (np : Int) := by omega
            go_wp2_with fail
            refine (HGq.out _ (HO1.out.trans HO4.out)).mono ?_
            rintro e w5 ⟨rfl, ho5⟩
            have HO5 := hide ho5
            clear ho5
            go_wp2_with fail
            go_meet
            exact ⟨by rw [HQ.out]; simp; omega, HO5⟩
      case rest =>
        obtain ⟨rfl, hox⟩ := hcut
        clear x0 x1 x2 x3 x4 x5 x6 x7 x8
        have HLx := hide (HLf.out.only hox.out (fun h => h))
        have HOx := hide (HO4.out.trans hox.out)
        have HOwnx := hide (own_only HOwn4.out hox.out (fun _ _ h => h.elim))
        clear HLf HO4 HOwn4 hox
        cases hsb : scrB Ps l id with
        | false =>
          have HF2 := hide (show perM Ps l (lagsP l) (List.take (k + 1) (idsL l)) = out by rw [HF.out, hsb, hout.out]; simp)
          clear hsb
          go_wp2_with fail
          go_roundw
          case rel => exact ⟨k + 1, out, by omega, by go_num, HF2, by rw [← Hm.out]; exact HOwnx, HOx⟩
          case measure => simp [intOf]; omega
        | true =>
          rw [hsb] at HSB
          have hh := HSB.out
          have hsn0 : 0 ≤ sn ∧ sn < np := by
            have := hh.symm
            simp only [Bool.and_eq_true, decide_eq_true_eq] at this
            exact this.1
          have HF2 := hide (show perM Ps l (lagsP l) (List.take (k + 1) (idsL l)) = out ++ lagsP l (prAt Ps sn.toNat) id by rw [HF.out, hsb, hout.out]; simp)
          clear hsb hh HSB
          obtain ⟨q, hq⟩ : ∃ q : Nat, sn = q := ⟨sn.toNat, by omega⟩
          subst hq
          have hqn : q < np := by omega
          have hqt : ((q : Int).toNat) = q := by omega
          rw [hqt] at HF2
          obtain ⟨⟨x0, x1, x2, x3, x4, x5, x6, x7, x8⟩, _⟩ := HLx.out.nine
          have HOwx := hide (HO1.out.trans HOx.out)
          obtain ⟨pb, po, rfl, hpb, p0, p1, p2, p3⟩ := HPr.out _ HOwx.out q hqn
          have HOq := hide (HOps.out _ HOwx.out q hqn)
          have hSq := HSz.out q hqn
          have hll := lags_le l HX.out (prAt Ps q) id
          have hlu : lagsP l (prAt Ps q) id = (seenM (prM (prAt Ps q)) id l).out := rfl
          obtain ⟨v, hv⟩ : ∃ v, v = prAt Ps q := ⟨_, rfl⟩
          rw [← hv] at p0 p1 p2 p3 HOq hSq HF2 hll hlu
          obtain ⟨vs, vd, vj, vPA, vpc, vL⟩ := v
          simp only at p0 p1 p2 p3 HOq
          have hsV := hSq
          obtain ⟨hs1, hs2, hs3⟩ := hSq
          simp only at hs1 hs2 hs3
          obtain ⟨vn, hvn⟩ : ∃ vn, vn = vL.length := ⟨_, rfl⟩
          rw [← hvn] at p3
          obtain ⟨P, hP⟩ : ∃ P, P = progM vs vd vj vL := ⟨_, rfl⟩
          have hlu2 : lagsP l ⟨vs, vd, vj, vPA, vpc, vL⟩ id = (seenM P id l).out := by rw [hP]; rfl
          have HLu := hide hlu2
          have HLl := hide hll
          have i1 : (0 : Int) ≤ (q : Int) := by omega
          have i2 : (q : Int) < (np : Int) := by omega
          have HVn := hide hvn
          have HPP := hide hP
          have HS1 := hide hs1
          have HS2 := hide hs2
          have HS3 := hide hs3
          clear hv hlu hlu2 hll hsV hsn0 hvn hP hs1 hs2 hs3
          go_upto_region 8 with fail
          obtain ⟨W5, hW5⟩ : ∃ W5, W5 = wc.alloc (.cells #[.string vs, .int .i64 vd, .int .i64 vj, .slice vPA vn vpc, .int .i64 id, .int .i64 (-1), .bool false, .int .i64 0, .int .i64 0, .int .i64 0, .slice none 0 0, .slice none 0 0] 148) := ⟨_, rfl⟩
          have HPw := hide (show PwAt W5 wc.heap.size wc.heap.size ⟨vs, vd, vj, vPA, vn, vpc, id⟩ pw0 by rw [hW5]; exact ⟨_, _, ⟨Blk.new _ _ _, own_nil (by simp), own_nil (by simp), Nat.le_refl _⟩⟩)
          have HO5 := hide (show Only (wc.heap.size ≤ ·) wc W5 by rw [hW5]; exact (Only.refl _ _).alloc _)
          rw [← hW5]
          have HQo := hide (HOq.out.old (Nat.le_refl _))
          obtain ⟨g5, hg5⟩ : ∃ g5, g5 = wc.heap.size := ⟨_, rfl⟩
          rw [← hg5] at HPw HO5 HQo ⊢
          have HG5 := hide hg5
          clear hW5 x0 x1 x2 x3 x4 x5 x6 x7 x8 p0 p1 p2 p3 HLx HOq hpb hg5
          go_wp2_with fail
          go_loopw [55] (fun i wi => ∃ t : Nat, t ≤ n ∧ i = .int .i64 t ∧ Hid (PwAt wi g5 g5 ⟨vs, vd, vj, vPA, vn, vpc, id⟩ (seenM P id (l.take t))) ∧ Hid (Only (g5 ≤ ·) wc wi)) (fun i _ => n - (intOf i).toNat)
          case atStart => exact ⟨0, Nat.zero_le _, rfl, HPw, HO5⟩
          case round =>
            clear HPw HO5
            obtain ⟨t, ht, rfl, HPw, HO5⟩ := hrel
            have HOwi := hide (HOwx.out.trans (only_new (by rw [HG5.out]; exact Nat.le_refl _) HO5.out))
            by_cases hlt2 : t < n
            · obtain ⟨eb, eo, rfl, _, heb, y0, y1, y2, y3, y4, y5, y6, y7, y8, y9, y10, y11⟩ := HEv.out wr HOwi.out t hlt2
              have hsucc := seen_succ P id l t (by rw [← Hnl.out]; exact hlt2)
              have hxs := HX.out _ (List.mem_of_getElem? (evAt_some (show t < l.length by rw [← Hnl.out]; exact hlt2)))
              have hsm := sm_seen P id l HX.out t (by rw [← Hnl.out]; omega)
              obtain ⟨x, hx⟩ : ∃ x, x = evAt l t := ⟨_, rfl⟩
              rw [← hx] at y0 y1 y2 y3 y4 y5 y6 y7 y8 y9 y10 y11 hsucc hxs
              clear hx
              obtain ⟨ek, ei, en, et, es, ee, ⟨est, esa, esw, esr, esn, ess⟩⟩ := x
              simp only at y0 y1 y2 y3 y4 y5 y6 y7 y8 y9 y10 y11 hxs
              have HSee := hide (fun (w' : World) (hp : PwAt w' g5 g5 ⟨vs, vd, vj, vPA, vn, vpc, id⟩ (seenM P id (l.take t))) (k : Only (g5 ≤ ·) wc w') => by
                have := pwsee_c g5 g5 ⟨vs, vd, vj, vPA, vn, vpc, id⟩ (seenM P id (l.take t)) t vL ek ei en et es ee est esa esw esr esn ess w' hp hsm (by omega) hxs (HQo.out.only k (fun _ h => h)) HVn.out HS1.out HS2.out HS3.out
                rw [← HPP.out, ← hsucc] at this
                exact this)
              clear hsucc hsm
              have e1 : decide ((t : Int) < (n : Int)) = true := by simp; exact hlt2
              have e2 : decide (t < n) = true := by simp; exact hlt2
              have l1 : (0 : Int) ≤ (t : Int) := by omega
              have l2 : (t : Int) < (n : Int) := by omega
              have w3' : IntKind.i64.wrap ((t : Int) + 1) = (t : Int) + 1 := IntWalk.i64_in _ (by omega)
              go_upto_region 11 with fail
              obtain ⟨W6, hW6⟩ : ∃ W6, W6 = wr.alloc (.cells #[.int .i64 ek, .int .i64 ei, .int .i64 en, .int .i64 et, .string es, .int .i64 ee, .int .i64 est, .int .i64 esa, .int .i64 esw, .int .i64 esr, .int .i64 esn, .int .i64 ess] 82) := ⟨_, rfl⟩
              have HPw6 := hide (show PwAt W6 g5 g5 ⟨vs, vd, vj, vPA, vn, vpc, id⟩ (seenM P id (l.take t)) by rw [hW6]; obtain ⟨va, vo, hm⟩ := HPw.out; exact ⟨va, vo, hm.alloc _⟩)
              have HO6 := hide (show Only (g5 ≤ ·) wc W6 by rw [hW6]; exact HO5.out.alloc _)
              have HX6 := hide (show Blk W6 wr.heap.size 82 #[.int .i64 ek, .int .i64 ei, .int .i64 en, .int .i64 et, .string es, .int .i64 ee, .int .i64 est, .int .i64 esa, .int .i64 esw, .int .i64 esr, .int .i64 esn, .int .i64 ess] by rw [hW6]; exact Blk.new _ _ _)
              rw [← hW6]
              clear hW6 y0 y1 y2 y3 y4 y5 y6 y7 y8 y9 y10 y11 HPw HO5
              obtain ⟨y0, y1, y2, y3, y4, y5, y6, y7, y8, y9, y10, y11⟩ := HX6.out.twelve
              go_wp2_with fail
              refine (HSee.out _ HPw6.out HO6.out).mono ?_
              rintro e w7 ⟨rfl, hp7, ho7⟩
              have HP7 := hide hp7
              have HO7 := hide (HO6.out.trans ho7)
              clear hp7 ho7
              go_wp2_with fail
              go_roundw
              case rel => exact ⟨_, _, _, _, _, _, _, _, _, ⟨t + 1, by omega, by go_num, HP7, HO7⟩, rfl⟩
              case measure => simp [intOf]; omega
            · obtain rfl : t = n := by omega
              have e1 : decide ((t : Int) < (t : Int)) = false := by simp
              have e2 : decide (t < t) = false := by simp
              obtain ⟨va, vo, hm5⟩ := HPw.out
              rw [Hnl.out, List.take_length] at hm5
              obtain ⟨fo, hfo⟩ : ∃ fo, fo = (seenM P id l).out := ⟨_, rfl⟩
              have hoo := hm5.oo
              have hkb := hm5.blk
              rw [← hfo] at hoo
              obtain ⟨VA, vc2, rfl, _⟩ := own_cap hoo
              have hfl : fo.length ≤ t := by have := HLl.out; rw [HLu.out, ← hfo, ← Hnl.out] at this; exact this
              have HRo := hide (Rd.of_own (M := NoBlk) hoo (fun _ h => h.elim))
              have HF3 := hide (show perM Ps l (lagsP l) (List.take (k + 1) (idsL l)) = out ++ fo by rw [HF2.out, HLu.out, hfo])
              have hown9 := own_only HOwnx.out HO5.out (fun g cs hs => no_blk_new (by rw [HG5.out]; exact Nat.le_refl _) hs)
              have HOwn9 := hide hown9
              have HO9 := hide (HOx.out.trans (only_new (by rw [HG5.out]; exact Nat.le_refl _) HO5.out))
              have hfl6 := flat_len encLag 6 encLag_len fo
              have hone : ∀ u ∈ flat encLag fo, u.oneCell' = true := flat_one encLag_one fo
              have Hl6 := hide hfl6
              have Hone := hide hone
              obtain ⟨_, _, _, _, _, _, _, _, _, _, _, z11⟩ := hkb.twelve
              obtain ⟨mf, hmf⟩ : ∃ mf, mf = fo.length := ⟨_, rfl⟩
              rw [← hmf] at z11 hfl Hl6
              have Hmf := hide hmf
              have hsz9 : w1.heap.size ≤ wr.heap.size := HO9.out.size
              clear hm5 hoo hkb hown9 hfl6 hone hmf hfo HPw HO5
              go_wp2_with (at_builtin; refine wpList_append_rd _ rfl (.tmp 63) (.tmp 67) _ rfl w1.heap.size 96 il _ 6 48 Tryz.underlying47 hil hlz0 hlz1 hlz2 rfl (by omega) _ m _ rfl HOwn9.out NoBlk VA mf vc2 (flat encLag fo) rfl HRo.out Hl6.out Hone.out (by simp only [maxLen]; omega) (by omega) hsz9 ?_; intro v2 w9 hown2 hgr _; have Own2 := hide hown2; have Gr := hide hgr; clear hown2 hgr)
              go_roundw
              case rel =>
                refine ⟨k + 1, out ++ fo, by omega, by go_num, HF3, ?_, hide (HO9.out.grown Gr.out (fun j hj => Or.inr (own_ge HOwn9.out j hj)))⟩
                rw [List.length_append, ← Hm.out, ← Hmf.out, flat_append]
                exact Own2
              case measure => simp [intOf]; omega
end Go.Proofs.YtdmdohjdmnmabaaGreat
