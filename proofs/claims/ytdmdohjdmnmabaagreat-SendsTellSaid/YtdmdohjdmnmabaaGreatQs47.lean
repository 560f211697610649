/- All sends, by the program; that a send is told. Conditions: those of each theorem. -/
import Derived.Test.YtdmdohjdmnmabaaGreatQs46
namespace Go.Proofs.YtdmdohjdmnmabaaGreat
open Go.RowKit
set_option linter.unusedVariables false
set_option linter.unusedSimpArgs false

def sendsP (l : List Ev) (v : PrV) (id : Int) : List SdM := sendsM (prM v) id l
theorem flat_oneS {α : Type} {enc : α → List Value} (h : ∀ a, ∀ u ∈ enc a, u.oneCell' = true) (l : List α) : ∀ u ∈ flat enc l, u.oneCell' = true := by
  intro u hu
  unfold flat at hu
  rw [List.mem_flatten] at hu
  obtain ⟨r, hr, hu⟩ := hu
  obtain ⟨a, _, rfl⟩ := List.mem_map.1 hr
  exact h a u hu
/-- all sends -/
def allS (Ps : List PrV) (l : List Ev) : List SdM := perM Ps l (sendsP l) (idsL l)
set_option maxRecDepth 100000 in
set_option maxHeartbeats 25600000 in
theorem sof_c (SA : Option Addr) (sc : Nat) (Ps : List PrV) (A : Option Addr) (c : Nat) (l : List Ev) (w : World) (hs : PrsRd w NoBlk SA Ps) (hsn : Ps.length ≤ maxLen) (hsz : ∀ v ∈ Ps, PrSz v) (hr : Rd w NoBlk A (flat encEv l)) (hn : l.length ≤ 999) (hx : ∀ x ∈ l, x.s.size ≤ 100) (hlc : l.length ≤ c) :
    Calls Tryz.prog 63 #[.slice SA Ps.length sc, .slice A l.length c] w fun e w' => (∃ v, e = .returned v ∧ w'.ownsRow w.heap.size 109 7 v (allS Ps l).length (flat encSd (allS Ps l))) ∧ Only NoBlk w w' := by
  obtain ⟨il, hil, hlz0, hlz1, hlz2⟩ := info_parts Tryz.infoSd
  have HIds := hide (fun (w' : World) (k : Only NoBlk w w') => by
    have := Ids_c NoBlk A c l w' (hr.only k (fun _ h => h)) (by omega) (fun k h => h.elim)
    rw [show Lib.compact ((openedL l).mergeSort fun x y => decide (x ≤ y)) = idsL l from (ids_uniq l).symm] at this
    exact this)
  have HScr := hide (fun (id : Int) (w' : World) (k : Only NoBlk w w') => script_c SA sc Ps A c l id w' (hs.only k (fun _ h => h)) hsn hsz (hr.only k (fun _ h => h)) (by omega) hx hlc)
  have HOne := hide (fun (id : Int) (w' : World) (k : Only NoBlk w w') (i : Nat) (hi : i < Ps.length) => sone_c (prAt Ps i).s (prAt Ps i).d (prAt Ps i).j (prAt Ps i).PA (prAt Ps i).pc (prAt Ps i).L A c l id w' ((hs.only k (fun _ h => h)).2 _ (prAt_mem hi)) (hsz _ (prAt_mem hi)).1 (hsz _ (prAt_mem hi)).2.1 (hsz _ (prAt_mem hi)).2.2 (hr.only k (fun _ h => h)) (by omega))
  have hile := ids_le l
  have hpl := per_len Ps l (sendsP l) (l.length + 1) (fun v id => sends_le (prM v) id l)
  have HPm := hide (show allS Ps l = perM Ps l (sendsP l) (idsL l) from rfl)
  have HSome := hide (fun (k : Nat) (hk : k < (idsL l).length) => ids_some (l := l) (id := nth (idsL l) k) (by rw [nth_of_lt hk]; exact List.getElem_mem hk))
  obtain ⟨N, hN⟩ : ∃ N, N = (idsL l).length := ⟨_, rfl⟩
  obtain ⟨n, hnl⟩ : ∃ n, n = l.length := ⟨_, rfl⟩
  obtain ⟨np, hnp⟩ : ∃ np, np = Ps.length := ⟨_, rfl⟩
  have HN := hide hN
  have Hnl := hide hnl
  have Hnp := hide hnp
  obtain ⟨T, hT⟩ : ∃ T, T = allS Ps l := ⟨_, rfl⟩
  rw [← hT] at HPm ⊢
  rw [← hN] at HIds hile HSome
  rw [← hnl] at HIds HScr HOne hn hlc hile hpl ⊢
  rw [← hnp] at HScr HOne ⊢
  have HPL := hide hpl
  clear hs hsn hsz hr hx hN hnl hnp hpl hT
  go_enter Tryz.func63, Tryz.ntmps63
  go_wp2_with fail
  refine (HIds.out _ (Only.refl _ w)).mono ?_
  rintro e w1 ⟨hb1, A1, c1, rfl, hr1⟩
  have HO1 := hide (Only.of_below hb1 NoBlk)
  have HR1 := hide hr1
  clear hb1 hr1
  go_wp2_with fail
  go_loopw [5, 14] (fun v i wr => ∃ (k : Nat) (out : List SdM), k ≤ N ∧ i = .int .i64 k ∧ Hid (perM Ps l (sendsP l) ((idsL l).take k) = out) ∧ Hid (wr.ownsRow w1.heap.size 109 7 v out.length (flat encSd out)) ∧ Hid (Only NoBlk w1 wr)) (fun _ i _ => N - (intOf i).toNat)
  case atStart => exact ⟨0, [], Nat.zero_le _, rfl, hide (by simp [perM]), hide (own_nil (Nat.le_refl _)), hide (Only.refl _ _)⟩
  case round =>
    obtain ⟨k, out, hk, rfl, hout, hown, ho⟩ := hrel
    obtain ⟨OA, oc, rfl, hoc⟩ := own_cap hown.out
    have hol : out.length ≤ 1000000 := by
      have h1 := HPL.out ((idsL l).take k)
      rw [hout.out, List.length_take, ← HN.out] at h1
      have h2 : min k N ≤ 999 := by omega
      have h3 : min k N * (n + 1) ≤ 999 * 1000 := Nat.mul_le_mul h2 (by omega)
      omega
    obtain ⟨m, hm⟩ : ∃ m, m = out.length := ⟨_, rfl⟩
    rw [← hm] at hown hol hoc ⊢
    have Hm := hide hm
    clear hm
    by_cases hlt : k < N
    case neg =>
      obtain rfl : k = N := by omega
      have hd : decide ((k : Int) < (k : Int)) = false := by simp
      have hd2 : decide (k < k) = false := by simp
      have HF := hide (show T = out by rw [HPm.out, ← hout.out, HN.out, List.take_length])
      go_wp2_with fail
      go_ret
      rw [HF.out, ← Hm.out]
      exact ⟨⟨_, rfl, own_base hown.out HO1.out.size⟩, HO1.out.trans ho.out⟩
    case pos =>
      have HF := hide (per_succ Ps l (sendsP l) (idsL l) k (by rw [← HN.out]; exact hlt))
      obtain ⟨b, oo, rfl, hb, g0⟩ := id_cell (HR1.out.only ho.out (fun _ h => h)) k (by rw [← HN.out]; exact hlt)
      have HSm := hide (HSome.out k hlt)
      obtain ⟨id, hid⟩ : ∃ id, id = nth (idsL l) k := ⟨_, rfl⟩
      rw [← hid] at g0 HF HSm
      have d1 : decide ((k : Int) < (N : Int)) = true := by simp; exact hlt
      have d2 : decide (k < N) = true := by simp; exact hlt
      have j1 : (0 : Int) ≤ (k : Int) := by omega
      have j2 : (k : Int) < (N : Int) := by omega
      have w0 : IntKind.i64.wrap ((k : Int) + 1) = (k : Int) + 1 := IntWalk.i64_in _ (by omega)
      have HScr1 := hide (HScr.out id wr (HO1.out.trans ho.out))
      have HOne1 := hide (HOne.out id)
      have HSB := hide (show scrO Ps l id = scrB Ps l id by unfold scrO; rw [HSm.out]; rfl)
      rw [HSB.out] at HScr1
      have hszr : w1.heap.size ≤ wr.heap.size := ho.out.size
      clear hid HSm HSB
      go_wp2_with fail
      refine HScr1.out.mono ?_
      rintro e w3 ⟨⟨lwho, sn, lstart, LA, i0, lc, LB, s0, ld, lread, leof, lstatus, rfl⟩, ho3⟩
      obtain ⟨ltaken, hlt9⟩ : ∃ lt, lt = (lifeO (lifeGo id 0 l)).taken := ⟨_, rfl⟩
      rw [← hlt9]
      have HO3 := hide (ho.out.trans ho3)
      have HOwn3 := hide (own_only hown.out ho3 (fun _ _ h => h.elim))
      clear hlt9 ho3 g0 HScr1 ho hown
      cases hsb : scrB Ps l id with
      | false =>
        have HF2 := hide (show perM Ps l (sendsP l) (List.take (k + 1) (idsL l)) = out by rw [HF.out, hsb, hout.out]; simp)
        have HPv := hide (show prC false (prAt Ps (scrN l id).toNat) = #[.string ⟨#[]⟩, .int .i64 0, .int .i64 0, .slice none 0 0] from rfl)
        rw [HPv.out]
        clear hsb HPv
        go_upto_region 6 with fail
        obtain ⟨W4, hW4⟩ : ∃ W4, W4 = (w3.alloc (.cells #[.string ⟨#[]⟩, .int .i64 0, .int .i64 0, .slice none 0 0] 24)).alloc (.cells #[.int .i64 lwho, .int .i64 sn, .int .i64 lstart, .slice LA i0 lc, .slice LB s0 ld, .string lread, .string ltaken, .bool leof, .int .i64 lstatus] 118) := ⟨_, rfl⟩
        have HO4 := hide (show Only NoBlk w1 W4 by rw [hW4]; exact (HO3.out.alloc _).alloc _)
        have HOwn4 := hide (show W4.ownsRow w1.heap.size 109 7 (.slice OA m oc) m (flat encSd out) by rw [hW4]; exact (HOwn3.out.alloc _).alloc _)
        rw [← hW4]
        clear hW4
        go_wp2_with fail
        go_roundw
        case rel => exact ⟨k + 1, out, by omega, by go_num, HF2, by rw [← Hm.out]; exact HOwn4, HO4⟩
        case measure => simp [intOf]; omega
      | true =>
        have hsn0 : 0 ≤ scrN l id ∧ scrN l id < np := by
          have := hsb
          unfold scrB at this
          rw [← Hnp.out] at this
          simp only [Bool.and_eq_true, decide_eq_true_eq] at this
          exact this.1
        have HF2 := hide (show perM Ps l (sendsP l) (List.take (k + 1) (idsL l)) = out ++ sendsP l (prAt Ps (scrN l id).toNat) id by rw [HF.out, hsb, hout.out]; simp)
        obtain ⟨q, hq⟩ : ∃ q : Nat, scrN l id = q := ⟨(scrN l id).toNat, by omega⟩
        rw [show (scrN l id).toNat = q by omega] at HF2
        rw [show (scrN l id).toNat = q by omega]
        have hqn : q < np := by omega
        have HOneq := hide (fun (w' : World) (k : Only NoBlk w w') => HOne1.out w' k q hqn)
        obtain ⟨v, hv⟩ : ∃ v, v = prAt Ps q := ⟨_, rfl⟩
        rw [← hv] at HOneq HF2 ⊢
        have hll := sends_le (prM v) id l
        rw [← Hnl.out] at hll
        obtain ⟨vs, vd, vj, vPA, vpc, vL⟩ := v
        obtain ⟨fo, hfo⟩ : ∃ fo, fo = sendsM (prM ⟨vs, vd, vj, vPA, vpc, vL⟩) id l := ⟨_, rfl⟩
        have hfo2 : sendsM (progM vs vd vj vL) id l = fo := hfo.symm
        have hfo3 : sendsP l ⟨vs, vd, vj, vPA, vpc, vL⟩ id = fo := hfo.symm
        simp only at HOneq
        rw [hfo2] at HOneq
        rw [hfo3] at HF2
        rw [← hfo] at hll
        obtain ⟨vn, hvn⟩ : ∃ vn, vn = vL.length := ⟨_, rfl⟩
        have HPv := hide (show prC true ⟨vs, vd, vj, vPA, vpc, vL⟩ = #[.string vs, .int .i64 vd, .int .i64 vj, .slice vPA vn vpc] by rw [hvn]; rfl)
        rw [HPv.out]
        rw [← hvn] at HOneq
        clear hsb HPv hsn0 hq hv hvn hfo hfo2 hfo3
        go_upto_region 6 with fail
        obtain ⟨W4, hW4⟩ : ∃ W4, W4 = (w3.alloc (.cells #[.string vs, .int .i64 vd, .int .i64 vj, .slice vPA vn vpc] 24)).alloc (.cells #[.int .i64 lwho, .int .i64 sn, .int .i64 lstart, .slice LA i0 lc, .slice LB s0 ld, .string lread, .string ltaken, .bool leof, .int .i64 lstatus] 118) := ⟨_, rfl⟩
        have HO4 := hide (show Only NoBlk w1 W4 by rw [hW4]; exact (HO3.out.alloc _).alloc _)
        have HOwn4 := hide (show W4.ownsRow w1.heap.size 109 7 (.slice OA m oc) m (flat encSd out) by rw [hW4]; exact (HOwn3.out.alloc _).alloc _)
        have HPb := hide (show Blk W4 w3.heap.size 24 #[.string vs, .int .i64 vd, .int .i64 vj, .slice vPA vn vpc] by rw [hW4]; exact (Blk.new _ _ _).alloc _)
        rw [← hW4]
        clear hW4
        obtain ⟨⟨x0, x1, x2, x3⟩, _⟩ := HPb.out.four
        go_wp2_with fail
        refine (HOneq.out _ (HO1.out.trans HO4.out)).mono ?_
        rintro e w5 ⟨⟨v5, rfl, hown5⟩, ho5⟩
        obtain ⟨VA, vc2, rfl, _⟩ := own_cap hown5
        have HRo := hide (Rd.of_own (M := NoBlk) hown5 (fun _ h => h.elim))
        have HOwn9 := hide (own_only HOwn4.out ho5 (fun _ _ h => h.elim))
        have HO9 := hide (HO4.out.trans ho5)
        have Hl6 := hide (flat_len encSd 7 encSd_len fo)
        have Hone := hide (flat_oneS encSd_one fo)
        obtain ⟨mf, hmf⟩ : ∃ mf, mf = fo.length := ⟨_, rfl⟩
        rw [← hmf] at hll Hl6 ⊢
        have Hmf := hide hmf
        have hsz9 : w1.heap.size ≤ w5.heap.size := HO9.out.size
        clear hown5 ho5 hmf
        go_wp2_with (at_builtin; refine wpList_append_rd _ rfl (.tmp 27) (.tmp 31) _ rfl w1.heap.size 109 il _ 7 56 Tryz.underlying63 hil hlz0 hlz1 hlz2 rfl (by omega) _ m _ rfl HOwn9.out NoBlk VA mf vc2 (flat encSd fo) rfl HRo.out Hl6.out Hone.out (by simp only [maxLen]; omega) (by omega) hsz9 ?_; intro v2 w9 hown2 hgr _; have Own2 := hide hown2; have Gr := hide hgr; clear hown2 hgr)
        go_roundw
        case rel =>
          refine ⟨k + 1, out ++ fo, by omega, by go_num, HF2, ?_, hide (HO9.out.grown Gr.out (fun j hj => Or.inr (own_ge HOwn9.out j hj)))⟩
          rw [List.length_append, ← Hm.out, ← Hmf.out, flat_append]
          exact Own2
        case measure => simp [intOf]; omega
set_option maxRecDepth 100000 in
set_option maxHeartbeats 3200000 in
theorem sOf_c (SA : Option Addr) (sc : Nat) (Ps : List PrV) (A : Option Addr) (c : Nat) (l : List Ev) (w : World) (hs : PrsRd w NoBlk SA Ps) (hsn : Ps.length ≤ maxLen) (hsz : ∀ v ∈ Ps, PrSz v) (hr : Rd w NoBlk A (flat encEv l)) (hn : l.length ≤ 999) (hx : ∀ x ∈ l, x.s.size ≤ 100) (hlc : l.length ≤ c) :
    Calls Tryz.prog 31 #[.slice SA Ps.length sc, .slice A l.length c] w fun e w' => (∃ A1 c1, e = .returned (.slice A1 (allS Ps l).length c1) ∧ Rd w' NoBlk A1 (flat encSd (allS Ps l))) ∧ Only NoBlk w w' := by
  have HP := hide (sof_c SA sc Ps A c l w hs hsn hsz hr hn hx hlc)
  obtain ⟨T, hT⟩ : ∃ T, T = allS Ps l := ⟨_, rfl⟩
  obtain ⟨n, hnl⟩ : ∃ n, n = l.length := ⟨_, rfl⟩
  obtain ⟨np, hnp⟩ : ∃ np, np = Ps.length := ⟨_, rfl⟩
  rw [← hT, ← hnl, ← hnp] at HP
  rw [← hT, ← hnl, ← hnp]
  clear hs hsn hsz hr hn hx hlc hT hnl hnp
  go_enter Tryz.func31, Tryz.ntmps31
  go_wp2_with fail
  refine HP.out.mono ?_
  rintro e w2 ⟨⟨v, rfl, hown⟩, ho2⟩
  obtain ⟨A1, c1, rfl, _⟩ := own_cap hown
  have HR2 := hide (Rd.of_own (M := NoBlk) hown (fun _ h => h.elim))
  have HO2 := hide ho2
  clear hown ho2
  go_wp2_with fail
  go_ret
  exact ⟨⟨A1, c1, rfl, HR2.out⟩, HO2.out⟩
end Go.Proofs.YtdmdohjdmnmabaaGreat
