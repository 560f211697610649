/- Parts of a chain of lemmas: Sd6, Sd7. Conditions: those of each theorem. -/
import Derived.Test.YtdmdohjdmnmabaaGreatQo47
import Derived.Test.YtdmdohjdmnmabaaGreatQo33
namespace Go.Proofs.YtdmdohjdmnmabaaGreat
open Go.RowKit
set_option linter.unusedVariables false
set_option linter.unusedSimpArgs false

def sendsP (l : List Ev) (v : PrV) (id : Int) : List SdM := sendsM (prM v) id l
theorem flat_oneS {α : Type} {enc : α → List Value} (h : ∀ a, ∀ u ∈ enc a, u.oneCell' = true) (l : List α) : ∀ u ∈ flat enc l, u.oneCell' = true := by
  intro u hu
  unfold flat at hu
  rw [List.mem_flatten] at hu
  obtain ⟨r, hr, hu⟩ := hu
  obtain ⟨a, _, rfl⟩ := List.mem_map.1 hr
  exact h a u hu
/-- all sends -/
def allS (Ps : List PrV) (l : List Ev) : List SdM := perM Ps l (sendsP l) (idsL l)
set_option maxRecDepth 100000 in
set_option maxHeartbeats 25600000 in
theorem sof_c (SA : Option Addr) (sc : Nat) (Ps : List PrV) (A : Option Addr) (c : Nat) (l : List Ev) (w : World) (hs : PrsRd w NoBlk SA Ps) (hsn : Ps.length ≤ maxLen) (hsz : ∀ v ∈ Ps, PrSz v) (hr : Rd w NoBlk A (flat encEv l)) (hn : l.length ≤ 999) (hx : ∀ x ∈ l, x.s.size ≤ 100) (hlc : l.length ≤ c) :
    Calls Tryz.prog 63 #[.slice SA Ps.length sc, .slice A l.length c] w fun e w' => (∃ v, e = .returned v ∧ w'.ownsRow w.heap.size 109 7 v (allS Ps l).length (flat encSd (allS Ps l))) ∧ Only NoBlk w w' := by
  obtain ⟨il, hil, hlz0, hlz1, hlz2⟩ := info_parts Tryz.infoSd
  have HIds := hide (fun (w' : World) (k : Only NoBlk w w') => by
    have := Ids_c NoBlk A c l w' (hr.only k (fun _ h => h)) (by omega) (fun k h => h.elim)
    rw [show Lib.compact ((openedL l).mergeSort fun x y => decide (x ≤ y)) = idsL l from (ids_uniq l).symm] at this
    exact this)
  have HScr := hide (fun (id : Int) (w' : World) (k : Only NoBlk w w') => script_c SA sc Ps A c l id w' (hs.only k (fun _ h => h)) hsn hsz (hr.only k (fun _ h => h)) (by omega) hx hlc)
  have HOne := hide (fun (id : Int) (w' : World) (k : Only NoBlk w w') (i : Nat) (hi : i < Ps.length) => sone_c (prAt Ps i).s (prAt Ps i).d (prAt Ps i).j (prAt Ps i).PA (prAt Ps i).pc (prAt Ps i).L A c l id w' ((hs.only k (fun _ h => h)).2 _ (prAt_mem hi)) (hsz _ (prAt_mem hi)).1 (hsz _ (prAt_mem hi)).2.1 (hsz _ (prAt_mem hi)).2.2 (hr.only k (fun _ h => h)) (by omega))
  have hile := ids_le l
  have hpl := per_len Ps l (sendsP l) (l.length + 1) (fun v id => sends_le (prM v) id l)
  have HPm := hide (show allS Ps l = perM Ps l (sendsP l) (idsL l) from rfl)
  have HSome := hide (fun (k : Nat) (hk : k < (idsL l).length) => ids_some (l := l) (id := nth (idsL l) k) (by rw [nth_of_lt hk]; exact List.getElem_mem hk))
  obtain ⟨N, hN⟩ : ∃ N, N = (idsL l).length := ⟨_, rfl⟩
  obtain ⟨n, hnl⟩ : ∃ n, n = l.length := ⟨_, rfl⟩
  obtain ⟨np, hnp⟩ : ∃ np, np = Ps.length := ⟨_, rfl⟩
  have HN := hide hN
  have Hnl := hide hnl
  have Hnp := hide hnp
  obtain ⟨T, hT⟩ : ∃ T, T = allS Ps l := ⟨_, rfl⟩
  rw [← hT] at HPm ⊢
  rw [← hN] at HIds hile HSome
  rw [← hnl] at HIds HScr HOne hn hlc hile hpl ⊢
  rw [← hnp] at HScr HOne ⊢
  have HPL := hide hpl
  clear hs hsn hsz hr hx hN hnl hnp hpl hT
  go_enter Tryz.func63, Tryz.ntmps63
  go_wp2_with fail
  refine (HIds.out _ (Only.refl _ w)).mono ?_
  rintro e w1 ⟨hb1, A1, c1, rfl, hr1⟩
  have HO1 := hide (Only.of_below hb1 NoBlk)
  have HR1 := hide hr1
  clear hb1 hr1
  go_wp2_with fail
  go_loopw [5, 14] (fun v i wr => ∃ (k : Nat) (out : List SdM), k ≤ N ∧ i = .int .i64 k ∧ Hid (perM Ps l (sendsP l) ((idsL l).take k) = out) ∧ Hid (wr.ownsRow w1.heap.size 109 7 v out.length (flat encSd out)) ∧ Hid (Only NoBlk w1 wr)) (fun _ i _ => N - (intOf i).toNat)
  case atStart => exact ⟨0, [], Nat.zero_le _, rfl, hide (by simp [perM]), hide (own_nil (Nat.le_refl _)), hide (Only.refl _ _)⟩
  case round =>
    obtain ⟨k, out, hk, rfl, hout, hown, ho⟩ := hrel
    obtain ⟨OA, oc, rfl, hoc⟩ := own_cap hown.out
    have hol : out.length ≤ 1000000 := by
      have h1 := HPL.out ((idsL l).take k)
      rw [hout.out, List.length_take, ← HN.out] at h1
      have h2 : min k N ≤ 999 := by omega
      have h3 : min k N * (n + 1) ≤ 999 * 1000 := Nat.mul_le_mul h2 (by omega)
      omega
    obtain ⟨m, hm⟩ : ∃ m, m = out.length := ⟨_, rfl⟩
    rw [← hm] at hown hol hoc ⊢
    have Hm := hide hm
    clear hm
    by_cases hlt : k < N
    case neg =>
      obtain rfl : k = N := by omega
      have hd : decide ((k : Int) < (k : Int)) = false := by simp
      have hd2 : decide (k < k) = false := by simp
      have HF := hide (show T = out by rw [HPm.out, ← hout.out, HN.out, List.take_length])
      go_wp2_with fail
      go_ret
      rw [HF.out, ← Hm.out]
      exact ⟨⟨_, rfl, own_base hown.out HO1.out.size⟩, HO1.out.trans ho.out⟩
    case pos =>
      have HF := hide (per_succ Ps l (sendsP l) (idsL l) k (by rw [← HN.out]; exact hlt))
      obtain ⟨b, oo, rfl, hb, g0⟩ := id_cell (HR1.out.only ho.out (fun _ h => h)) k (by rw [← HN.out]; exact hlt)
      have HSm := hide (HSome.out k hlt)
      obtain ⟨id, hid⟩ : ∃ id, id = nth (idsL l) k := ⟨_, rfl⟩
      rw [← hid] at g0 HF HSm
      have d1 : decide ((k : Int) < (N : Int)) = true := by simp; exact hlt
      have d2 : decide (k < N) = true := by simp; exact hlt
      have j1 : (0 : Int) ≤ (k : Int) := by omega
      have j2 : (k : Int) < (N : Int) := by omega
      have w0 : IntKind.i64.wrap ((k : Int) + 1) = (k : Int) + 1 := IntWalk.i64_in _ (by omega)
      have HScr1 := hide (HScr.out id wr (HO1.out.trans ho.out))
      have HOne1 := hide (HOne.out id)
      have HSB := hide (show scrO Ps l id = scrB Ps l id by unfold scrO; rw [HSm.out]; rfl)
      rw [HSB.out] at HScr1
      have hszr : w1.heap.size ≤ wr.heap.size := ho.out.size
      clear hid HSm HSB
      go_wp2_with fail
      refine HScr1.out.mono ?_
      rintro e w3 ⟨⟨lwho, sn, lstart, LA, i0, lc, LB, s0, ld, lread, leof, lstatus, rfl⟩, ho3⟩
      obtain ⟨ltaken, hlt9⟩ : ∃ lt, lt = (lifeO (lifeGo id 0 l)).taken := ⟨_, rfl⟩
      rw [← hlt9]
      have HO3 := hide (ho.out.trans ho3)
      have HOwn3 := hide (own_only hown.out ho3 (fun _ _ h => h.elim))
      clear hlt9 ho3 g0 HScr1 ho hown
      cases hsb : scrB Ps l id with
      | false =>
        have HF2 := hide (show perM Ps l (sendsP l) (List.take (k + 1) (idsL l)) = out by rw [HF.out, hsb, hout.out]; simp)
        have HPv := hide (show prC false (prAt Ps (scrN l id).toNat) = #[.string ⟨#[]⟩, .int .i64 0, .int .i64 0, .slice none 0 0] from rfl)
        rw [HPv.out]
        clear hsb HPv
        go_upto_region 6 with fail
        obtain ⟨W4, hW4⟩ : ∃ W4, W4 = (w3.alloc (.cells #[.string ⟨#[]⟩, .int .i64 0, .int .i64 0, .slice none 0 0] 24)).alloc (.cells #[.int .i64 lwho, .int .i64 sn, .int .i64 lstart, .slice LA i0 lc, .slice LB s0 ld, .string lread, .string ltaken, .bool leof, .int .i64 lstatus] 118) := ⟨_, rfl⟩
        have HO4 := hide (show Only NoBlk w1 W4 by rw [hW4]; exact (HO3.out.alloc _).alloc _)
        have HOwn4 := hide (show W4.ownsRow w1.heap.size 109 7 (.slice OA m oc) m (flat encSd out) by rw [hW4]; exact (HOwn3.out.alloc _).alloc _)
        rw [← hW4]
        clear hW4
        go_wp2_with fail
        go_roundw
        case rel => exact ⟨k + 1, out, by omega, by go_num, HF2, by rw [← Hm.out]; exact HOwn4, HO4⟩
        case measure => simp [intOf]; omega
      | true =>
        have hsn0 : 0 ≤ scrN l id ∧ scrN l id < np := by
          have := hsb
          unfold scrB at this
          rw [← Hnp.out] at this
          simp only [Bool.and_eq_true, decide_eq_true_eq] at this
          exact this.1
        have HF2 := hide (show perM Ps l (sendsP l) (List.take (k + 1) (idsL l)) = out ++ sendsP l (prAt Ps (scrN l id).toNat) id by rw [HF.out, hsb, hout.out]; simp)
        obtain ⟨q, hq⟩ : ∃ q : Nat, scrN l id = q := ⟨(scrN l id).toNat, by omega⟩
        rw [show (scrN l id).toNat = q by omega] at HF2
        rw [show (scrN l id).toNat = q by omega]
        have hqn : q < np := by omega
        have HOneq := hide (fun (w' : World) (k : Only NoBlk w w') => HOne1.out w' k q hqn)
        obtain ⟨v, hv⟩ : ∃ v, v = prAt Ps q := ⟨_, rfl⟩
        rw [← hv] at HOneq HF2 ⊢
        have hll := sends_le (prM v) id l
        rw [← Hnl.out] at hll
        obtain ⟨vs, vd, vj, vPA, vpc, vL⟩ := v
        obtain ⟨fo, hfo⟩ : ∃ fo, fo = sendsM (prM ⟨vs, vd, vj, vPA, vpc, vL⟩) id l := ⟨_, rfl⟩
        have hfo2 : sendsM (progM vs vd vj vL) id l = fo := hfo.symm
        have hfo3 : sendsP l ⟨vs, vd, vj, vPA, vpc, vL⟩ id = fo := hfo.symm
        simp only at HOneq
        rw [hfo2] at HOneq
        rw [hfo3] at HF2
        rw [← hfo] at hll
        obtain ⟨vn, hvn⟩ : ∃ vn, vn = vL.length := ⟨_, rfl⟩
        have HPv := hide (show prC true ⟨vs, vd, vj, vPA, vpc, vL⟩ = #[.string vs, .int .i64 vd, .int .i64 vj, .slice vPA vn vpc] by rw [hvn]; rfl)
        rw [HPv.out]
        rw [← hvn] at HOneq
        clear hsb HPv hsn0 hq hv hvn hfo hfo2 hfo3
        go_upto_region 6 with fail
        obtain ⟨W4, hW4⟩ : ∃ W4, W4 = (w3.alloc (.cells #[.string vs, .int .i64 vd, .int .i64 vj, .slice vPA vn vpc] 24)).alloc (.cells #[.int .i64 lwho, .int .i64 sn, .int .i64 lstart, .slice LA i0 lc, .slice LB s0 ld, .string lread, .string ltaken, .bool leof, .int .i64 lstatus] 118) := ⟨_, rfl⟩
        have HO4 := hide (show Only NoBlk w1 W4 by rw [hW4]; exact (HO3.out.alloc _).alloc _)
        have HOwn4 := hide (show W4.ownsRow w1.heap.size 109 7 (.slice OA m oc) m (flat encSd out) by rw [hW4]; exact (HOwn3.out.alloc _).alloc _)
        have HPb := hide (show Blk W4 w3.heap.size 24 #[.string vs, .int .i64 vd, .int .i64 vj, .slice vPA vn vpc] by rw [hW4]; exact (Blk.new _ _ _).alloc _)
        rw [← hW4]
        clear hW4
        obtain ⟨⟨x0, x1, x2, x3⟩, _⟩ := HPb.out.four
        go_wp2_with fail
        refine (HOneq.out _ (HO1.out.trans HO4.out)).mono ?_
        rintro e w5 ⟨⟨v5, rfl, hown5⟩, ho5⟩
        obtain ⟨VA, vc2, rfl, _⟩ := own_cap hown5
        have HRo := hide (Rd.of_own (M := NoBlk) hown5 (fun _ h => h.elim))
        have HOwn9 := hide (own_only HOwn4.out ho5 (fun _ _ h => h.elim))
        have HO9 := hide (HO4.out.trans ho5)
        have Hl6 := hide (flat_len encSd 7 encSd_len fo)
        have Hone := hide (flat_oneS encSd_one fo)
        obtain ⟨mf, hmf⟩ : ∃ mf, mf = fo.length := ⟨_, rfl⟩
        rw [← hmf] at hll Hl6 ⊢
        have Hmf := hide hmf
        have hsz9 : w1.heap.size ≤ w5.heap.size := HO9.out.size
        clear hown5 ho5 hmf
        go_wp2_with (at_builtin; refine wpList_append_rd _ rfl (.tmp 27) (.tmp 31) _ rfl w1.heap.size 109 il _ 7 56 Tryz.underlying63 hil hlz0 hlz1 hlz2 rfl (by omega) _ m _ rfl HOwn9.out NoBlk VA mf vc2 (flat encSd fo) rfl HRo.out Hl6.out Hone.out (by simp only [maxLen]; omega) (by omega) hsz9 ?_; intro v2 w9 hown2 hgr _; have Own2 := hide hown2; have Gr := hide hgr; clear hown2 hgr)
        go_roundw
        case rel =>
          refine ⟨k + 1, out ++ fo, by omega, by go_num, HF2, ?_, hide (HO9.out.grown Gr.out (fun j hj => Or.inr (own_ge HOwn9.out j hj)))⟩
          rw [List.length_append, ← Hm.out, ← Hmf.out, flat_append]
          exact Own2
        case measure => simp [intOf]; omega
set_option maxRecDepth 100000 in
set_option maxHeartbeats 3200000 in
theorem sOf_c (SA : Option Addr) (sc : Nat) (Ps : List PrV) (A : Option Addr) (c : Nat) (l : List Ev) (w : World) (hs : PrsRd w NoBlk SA Ps) (hsn : Ps.length ≤ maxLen) (hsz : ∀ v ∈ Ps, PrSz v) (hr : Rd w NoBlk A (flat encEv l)) (hn : l.length ≤ 999) (hx : ∀ x ∈ l, x.s.size ≤ 100) (hlc : l.length ≤ c) :
    Calls Tryz.prog 31 #[.slice SA Ps.length sc, .slice A l.length c] w fun e w' => (∃ A1 c1, e = .returned (.slice A1 (allS Ps l).length c1) ∧ Rd w' NoBlk A1 (flat encSd (allS Ps l))) ∧ Only NoBlk w w' := by
  have HP := hide (sof_c SA sc Ps A c l w hs hsn hsz hr hn hx hlc)
  obtain ⟨T, hT⟩ : ∃ T, T = allS Ps l := ⟨_, rfl⟩
  obtain ⟨n, hnl⟩ : ∃ n, n = l.length := ⟨_, rfl⟩
  obtain ⟨np, hnp⟩ : ∃ np, np = Ps.length := ⟨_, rfl⟩
  rw [← hT, ← hnl, ← hnp] at HP
  rw [← hT, ← hnl, ← hnp]
  clear hs hsn hsz hr hn hx hlc hT hnl hnp
  go_enter Tryz.func31, Tryz.ntmps31
  go_wp2_with fail
  refine HP.out.mono ?_
  rintro e w2 ⟨⟨v, rfl, hown⟩, ho2⟩
  obtain ⟨A1, c1, rfl, _⟩ := own_cap hown
  have HR2 := hide (Rd.of_own (M := NoBlk) hown (fun _ h => h.elim))
  have HO2 := hide ho2
  clear hown ho2
  go_wp2_with fail
  go_ret
  exact ⟨⟨A1, c1, rfl, HR2.out⟩, HO2.out⟩
end Go.Proofs.YtdmdohjdmnmabaaGreat
namespace Go.Proofs.YtdmdohjdmnmabaaGreat
open Go.RowKit
set_option linter.unusedVariables false
set_option linter.unusedSimpArgs false

theorem sBound_c (s : SetM) (x : SdM) (write : Int) (w : World) : Calls Tryz.prog 70 #[.agg (setV s), .agg #[.int .i64 x.id, .int .i64 x.op, .int .i64 x.long, .int .i64 x.from_, .int .i64 x.taken, .bool x.done, .int .i64 x.at_], .int .i64 write] w fun e w' => e = .returned (.int .i64 (boundS s x.long write)) ∧ Below w.heap.size w w' := by
  have C := hide (fun w' => sbound_c s x write w')
  obtain ⟨T, hT⟩ : ∃ T, T = boundS s x.long write := ⟨_, rfl⟩
  rw [← hT] at C ⊢
  have HL := hide (show Below w.heap.size w ((w.alloc (.cells (setV s) 33)).alloc (.cells #[.int .i64 x.id, .int .i64 x.op, .int .i64 x.long, .int .i64 x.from_, .int .i64 x.taken, .bool x.done, .int .i64 x.at_] 109)) from (below_alloc _ _).alloc (by simp) _)
  clear hT
  go_enter Tryz.func70, Tryz.ntmps70
  go_wp2_with fail
  refine (C.out _).mono ?_
  rintro e w1 ⟨rfl, hb1⟩
  have HB1 := hide (HL.out.trans (hb1.mono HL.out.size))
  clear hb1
  go_wp2_with fail
  go_ret
  exact ⟨rfl, HB1.out⟩
def st36 : Stp := ⟨0, 0, 0, 0, 0, 0⟩
def ev36 : List Ev := [⟨1, 0, 0, 0, ⟨#[]⟩, 0, st36⟩, ⟨2, 0, 0, 0, ⟨#[]⟩, 0, st36⟩, ⟨1, 0, 0, 0, ⟨#[]⟩, 0, st36⟩, ⟨1, 0, 0, 0, ⟨#[]⟩, 0, st36⟩, ⟨6, 0, 3, 0, ⟨#[104, 101, 108]⟩, 0, st36⟩, ⟨1, 0, 0, 0, ⟨#[]⟩, 0, st36⟩, ⟨6, 0, 2, 0, ⟨#[108, 111]⟩, 0, st36⟩]
def op36 : OpM := ⟨1, ⟨#[104, 101, 108, 108, 111]⟩, 0, 0, [], 0, 0⟩
theorem lit36 (B : Option Addr) (c d : Nat) : allS [⟨⟨#[97]⟩, 99, 0, B, c, [⟨op36, none, d⟩]⟩] ev36 = [⟨0, 0, 5, 0, 5, true, 3⟩] := by rfl
def set36 : SetM := ⟨2, 4, 4, 4, 3, 1⟩
theorem lit36b : boundS set36 5 2 = 35 := by decide
theorem lag_at {w : World} {b o : Nat} {x : SdM} (hr : Rd w NoBlk (some ⟨b, o, none⟩) (flat encSd [x])) : w.cell? ⟨b, o, none⟩ = some (.int .i64 x.id) ∧ w.cell? ⟨b, o + 1, none⟩ = some (.int .i64 x.op) ∧ w.cell? ⟨b, o + 2, none⟩ = some (.int .i64 x.long) ∧ w.cell? ⟨b, o + 3, none⟩ = some (.int .i64 x.from_) ∧ w.cell? ⟨b, o + 4, none⟩ = some (.int .i64 x.taken) ∧ w.cell? ⟨b, o + 5, none⟩ = some (.bool x.done) ∧ w.cell? ⟨b, o + 6, none⟩ = some (.int .i64 x.at_) := by
  obtain ⟨b2, o2, hA, _, hb, hc⟩ := flat_cells encSd_len hr 0 x rfl (by omega)
  injection hA with hA
  injection hA with h1 h2
  subst h1 h2
  simp only [Nat.zero_mul, Nat.add_zero] at hc
  exact ⟨hc 0 (by omega), hc 1 (by omega), hc 2 (by omega), hc 3 (by omega), hc 4 (by omega), hc 5 (by omega), hc 6 (by omega)⟩
set_option maxRecDepth 100000 in
set_option maxHeartbeats 6400000 in
theorem lives36_c (w : World) : Calls Tryz.prog 35 #[] w fun e w' => e = .returned (.bool true) ∧ Only NoBlk w w' := by
  go_enter Tryz.func35, Tryz.ntmps35
  go_wp2_with fail
  refine (sOf_c (some ⟨w.heap.size + 1 + 1 + 1, 0, none⟩) 1 [⟨⟨#[97]⟩, 99, 0, some ⟨w.heap.size, 0, none⟩, 1, [⟨op36, none, 0⟩]⟩] (some ⟨w.heap.size + 1 + 1, 0, none⟩) 7 ev36 _ ⟨?_, ?_⟩ (by simp [maxLen]) ?_ ?_ (by decide) (by decide) (by decide)).mono ?_
  · exact rd_blkN (t := 24) (Blk.new' (by simp)) (fun h => h)
  · intro v hv
    simp only [List.mem_singleton] at hv
    subst hv
    refine ⟨rd_blkN (t := 75) (Blk.alloc (Blk.alloc (Blk.alloc (Blk.new' rfl) _) _) _) (fun h => h), ?_⟩
    intro o ho
    simp only [List.mem_singleton] at ho
    subst ho
    exact Rd.nil
  · intro v hv
    simp only [List.mem_singleton] at hv
    subst hv
    refine ⟨by simp [maxLen], show (⟨#[97]⟩ : ByteArray).size ≤ 9223372036854775807 by decide, ?_⟩
    intro o ho
    simp only [List.mem_singleton] at ho
    subst ho
    exact ⟨show op36.text.size ≤ 9223372036854775807 by decide, by simp [op36, maxLen], show ∀ a ∈ op36.arms, a.pat.size ≤ 9223372036854775807 by decide⟩
  · exact rd_blkN (t := 82) (Blk.alloc (Blk.new' (by simp)) _) (fun h => h)
  · rintro e w2 ⟨⟨A1, c1, he, hr2⟩, ho2⟩
    rw [lit36] at he hr2
    subst he
    obtain ⟨b, o, rfl, _, hb, _⟩ := flat_cells encSd_len hr2 0 ⟨0, 0, 5, 0, 5, true, 3⟩ rfl (by omega)
    have HR2 := hide hr2
    have HO := hide (show Only NoBlk w w2 from (((((Only.refl NoBlk w).alloc _).alloc _).alloc _).alloc _).trans ho2)
    have HBd := hide (fun w => sBound_c set36 ⟨0, 0, 5, 0, 5, true, 3⟩ 2 w)
    rw [show boundS set36 (SdM.long ⟨0, 0, 5, 0, 5, true, 3⟩) 2 = 35 from lit36b] at HBd
    clear hr2 ho2
    simp only [List.length_cons, List.length_nil, Nat.zero_add]
    go_upto_region 5 with fail
    obtain ⟨W3, hW3⟩ : ∃ W3, W3 = w2.alloc (.cells #[.int .i64 2, .int .i64 4, .int .i64 4, .int .i64 4, .int .i64 3, .int .i64 1] 33) := ⟨_, rfl⟩
    have HB3 := hide (show Blk W3 w2.heap.size 33 #[.int .i64 2, .int .i64 4, .int .i64 4, .int .i64 4, .int .i64 3, .int .i64 1] by rw [hW3]; exact Blk.new _ _ _)
    have HO3 := hide (show Only NoBlk w W3 by rw [hW3]; exact HO.out.alloc _)
    have HR3 := hide (show Rd W3 NoBlk (some ⟨b, o, none⟩) (flat encSd [⟨0, 0, 5, 0, 5, true, 3⟩]) by rw [hW3]; exact HR2.out.only ((Only.refl NoBlk _).alloc _) (fun _ h => h))
    have HCell := hide (fun (w' : World) (hr : Rd w' NoBlk (some ⟨b, o, none⟩) (flat encSd [⟨0, 0, 5, 0, 5, true, 3⟩])) => lag_at hr)
    rw [← hW3]
    obtain ⟨sg, hsg⟩ : ∃ sg, sg = w2.heap.size := ⟨_, rfl⟩
    rw [← hsg] at HB3 ⊢
    clear hW3 hsg
    obtain ⟨V0, hV0⟩ : ∃ V9, V9 = W3.drew := ⟨_, rfl⟩
    have HB4 := hide (show Blk V0 sg 33 #[.int .i64 2, .int .i64 4, .int .i64 4, .int .i64 4, .int .i64 3, .int .i64 1] by rw [hV0]; exact HB3.out.drew)
    have HO4 := hide (show Only NoBlk w V0 by rw [hV0]; exact HO3.out.drew)
    have HR4 := hide (show Rd V0 NoBlk (some ⟨b, o, none⟩) (flat encSd [⟨0, 0, 5, 0, 5, true, 3⟩]) by rw [hV0]; exact HR3.out)
    refine wp_region_held (S := fun w' => w'.cell? ⟨sg, 0, none⟩ = some (.int .i64 2) ∧ w'.cell? ⟨sg, 1, none⟩ = some (.int .i64 4) ∧ w'.cell? ⟨sg, 2, none⟩ = some (.int .i64 4) ∧ w'.cell? ⟨sg, 3, none⟩ = some (.int .i64 4) ∧ w'.cell? ⟨sg, 4, none⟩ = some (.int .i64 3) ∧ w'.cell? ⟨sg, 5, none⟩ = some (.int .i64 1) ∧ w'.cell? ⟨b, o, none⟩ = some (.int .i64 0) ∧ w'.cell? ⟨b, o + 1, none⟩ = some (.int .i64 0) ∧ w'.cell? ⟨b, o + 2, none⟩ = some (.int .i64 5) ∧ w'.cell? ⟨b, o + 3, none⟩ = some (.int .i64 0) ∧ w'.cell? ⟨b, o + 4, none⟩ = some (.int .i64 5) ∧ w'.cell? ⟨b, o + 5, none⟩ = some (.bool true) ∧ w'.cell? ⟨b, o + 6, none⟩ = some (.int .i64 3)) (by kernel_rfl) ?_
    change wpAnyH _ _ _ _ _ _ _ _ W3.drew
    have hHeld : (fun w' => w'.cell? ⟨sg, 0, none⟩ = some (.int .i64 2) ∧ w'.cell? ⟨sg, 1, none⟩ = some (.int .i64 4) ∧ w'.cell? ⟨sg, 2, none⟩ = some (.int .i64 4) ∧ w'.cell? ⟨sg, 3, none⟩ = some (.int .i64 4) ∧ w'.cell? ⟨sg, 4, none⟩ = some (.int .i64 3) ∧ w'.cell? ⟨sg, 5, none⟩ = some (.int .i64 1) ∧ w'.cell? ⟨b, o, none⟩ = some (.int .i64 0) ∧ w'.cell? ⟨b, o + 1, none⟩ = some (.int .i64 0) ∧ w'.cell? ⟨b, o + 2, none⟩ = some (.int .i64 5) ∧ w'.cell? ⟨b, o + 3, none⟩ = some (.int .i64 0) ∧ w'.cell? ⟨b, o + 4, none⟩ = some (.int .i64 5) ∧ w'.cell? ⟨b, o + 5, none⟩ = some (.bool true) ∧ w'.cell? ⟨b, o + 6, none⟩ = some (.int .i64 3)) W3.drew := by rw [← hV0]; exact (by obtain ⟨q0, q1, q2, q3, q4, q5⟩ := (HB4.out).six; obtain ⟨r0, r1, r2, r3, r4, r5, r6⟩ := HCell.out _ HR4.out; exact ⟨q0, q1, q2, q3, q4, q5, r0, r1, r2, r3, r4, r5, r6⟩)
    rw [← hV0] at hHeld ⊢
    simp only [List.size_toArray, List.length_cons, List.length_nil, Nat.zero_add, Nat.reduceAdd]
    clear hV0
    refine wpAnyH_take (i := 0) (v := ?_) rfl (by kernel_rfl) (by kernel_rfl) (by kernel_rfl) (fun _ _ _ h => h) (Or.inl ⟨by rfl, ?_⟩) (by assumption) ?_
    rotate_left
    · (intro w9 hS9; try simp only [List.getElem_toArray, List.getElem_cons_zero, List.getElem_cons_succ]
       go_simp <;> rfl)
    try simp only [Act.put, List.setIfInBounds_toArray, List.set_cons_zero, List.set_cons_succ, List.getElem_toArray, List.getElem_cons_zero, List.getElem_cons_succ]
    refine wpAnyH_take (i := 1) (v := ?_) rfl (by kernel_rfl) (by kernel_rfl) (by kernel_rfl) (fun _ _ _ h => h) (Or.inl ⟨by rfl, ?_⟩) (by assumption) ?_
    rotate_left
    · (intro w9 hS9; try simp only [List.getElem_toArray, List.getElem_cons_zero, List.getElem_cons_succ]
       go_simp <;> rfl)
    try simp only [Act.put, List.setIfInBounds_toArray, List.set_cons_zero, List.set_cons_succ, List.getElem_toArray, List.getElem_cons_zero, List.getElem_cons_succ]
    refine wpAnyH_take (i := 2) (v := ?_) rfl (by kernel_rfl) (by kernel_rfl) (by kernel_rfl) (fun _ _ _ h => h) (Or.inl ⟨by rfl, ?_⟩) (by assumption) ?_
    rotate_left
    · (intro w9 hS9; try simp only [List.getElem_toArray, List.getElem_cons_zero, List.getElem_cons_succ]
       go_simp <;> rfl)
    try simp only [Act.put, List.setIfInBounds_toArray, List.set_cons_zero, List.set_cons_succ, List.getElem_toArray, List.getElem_cons_zero, List.getElem_cons_succ]
    refine wpAnyH_take (i := 3) (v := ?_) rfl (by kernel_rfl) (by kernel_rfl) (by kernel_rfl) (fun _ _ _ h => h) (Or.inl ⟨by rfl, ?_⟩) (by assumption) ?_
    rotate_left
    · (intro w9 hS9; try simp only [List.getElem_toArray, List.getElem_cons_zero, List.getElem_cons_succ]
       go_simp <;> rfl)
    try simp only [Act.put, List.setIfInBounds_toArray, List.set_cons_zero, List.set_cons_succ, List.getElem_toArray, List.getElem_cons_zero, List.getElem_cons_succ]
    refine wpAnyH_take (i := 4) (v := ?_) rfl (by kernel_rfl) (by kernel_rfl) (by kernel_rfl) (fun _ _ _ h => h) (Or.inl ⟨by rfl, ?_⟩) (by assumption) ?_
    rotate_left
    · (intro w9 hS9; try simp only [List.getElem_toArray, List.getElem_cons_zero, List.getElem_cons_succ]
       go_simp <;> rfl)
    try simp only [Act.put, List.setIfInBounds_toArray, List.set_cons_zero, List.set_cons_succ, List.getElem_toArray, List.getElem_cons_zero, List.getElem_cons_succ]
    refine wpAnyH_take (i := 5) (v := ?_) rfl (by kernel_rfl) (by kernel_rfl) (by kernel_rfl) (fun _ _ _ h => h) (Or.inl ⟨by rfl, ?_⟩) (by assumption) ?_
    rotate_left
    · (intro w9 hS9; try simp only [List.getElem_toArray, List.getElem_cons_zero, List.getElem_cons_succ]
       go_simp <;> rfl)
    try simp only [Act.put, List.setIfInBounds_toArray, List.set_cons_zero, List.set_cons_succ, List.getElem_toArray, List.getElem_cons_zero, List.getElem_cons_succ]
    refine wpAnyH_take (i := 6) (v := ?_) rfl (by kernel_rfl) (by kernel_rfl) (by kernel_rfl) (fun _ _ _ h => h) (Or.inl ⟨by rfl, ?_⟩) (by assumption) ?_
    rotate_left
    · (intro w9 hS9; try simp only [List.getElem_toArray, List.getElem_cons_zero, List.getElem_cons_succ]
       go_simp <;> rfl)
    try simp only [Act.put, List.setIfInBounds_toArray, List.set_cons_zero, List.set_cons_succ, List.getElem_toArray, List.getElem_cons_zero, List.getElem_cons_succ]
    refine wpAnyH_take (i := 7) (v := ?_) rfl (by kernel_rfl) (by kernel_rfl) (by kernel_rfl) (fun _ _ _ h => h) (Or.inl ⟨by rfl, ?_⟩) (by assumption) ?_
    rotate_left
    · (intro w9 hS9; try simp only [List.getElem_toArray, List.getElem_cons_zero, List.getElem_cons_succ]
       go_simp <;> rfl)
    try simp only [Act.put, List.setIfInBounds_toArray, List.set_cons_zero, List.set_cons_succ, List.getElem_toArray, List.getElem_cons_zero, List.getElem_cons_succ]
    refine wpAnyH_take (i := 8) (v := .bool true) rfl (by kernel_rfl) (by kernel_rfl) (by kernel_rfl) (fun _ _ _ h => h) (Or.inl ⟨by rfl, ?_⟩) (by assumption) ?_
    · (intro w9 hS9; try simp only [List.getElem_toArray, List.getElem_cons_zero, List.getElem_cons_succ]
       go_simp)
    try simp only [Act.put, List.setIfInBounds_toArray, List.set_cons_zero, List.set_cons_succ, List.getElem_toArray, List.getElem_cons_zero, List.getElem_cons_succ]
    refine wpAnyH_take (i := 9) (v := ?_) rfl (by kernel_rfl) (by kernel_rfl) (by kernel_rfl) (fun _ _ _ h => h) (Or.inl ⟨by rfl, ?_⟩) (by assumption) ?_
    rotate_left
    · (intro w9 hS9; try simp only [List.getElem_toArray, List.getElem_cons_zero, List.getElem_cons_succ]
       go_simp <;> rfl)
    try simp only [Act.put, List.setIfInBounds_toArray, List.set_cons_zero, List.set_cons_succ, List.getElem_toArray, List.getElem_cons_zero, List.getElem_cons_succ]
    refine wpAnyH_take (i := 10) (v := ?_) rfl (by kernel_rfl) (by kernel_rfl) (by kernel_rfl) (fun _ _ _ h => h) (Or.inl ⟨by rfl, ?_⟩) (by assumption) ?_
    rotate_left
    · (intro w9 hS9; try simp only [List.getElem_toArray, List.getElem_cons_zero, List.getElem_cons_succ]
       go_simp <;> rfl)
    try simp only [Act.put, List.setIfInBounds_toArray, List.set_cons_zero, List.set_cons_succ, List.getElem_toArray, List.getElem_cons_zero, List.getElem_cons_succ]
    refine wpAnyH_take (i := 11) (v := ?_) rfl (by kernel_rfl) (by kernel_rfl) (by kernel_rfl) (fun _ _ _ h => h) (Or.inl ⟨by rfl, ?_⟩) (by assumption) ?_
    rotate_left
    · (intro w9 hS9; try simp only [List.getElem_toArray, List.getElem_cons_zero, List.getElem_cons_succ]
       go_simp <;> rfl)
    try simp only [Act.put, List.setIfInBounds_toArray, List.set_cons_zero, List.set_cons_succ, List.getElem_toArray, List.getElem_cons_zero, List.getElem_cons_succ]
    refine wpAnyH_take (i := 12) (v := ?_) rfl (by kernel_rfl) (by kernel_rfl) (by kernel_rfl) (fun _ _ _ h => h) (Or.inl ⟨by rfl, ?_⟩) (by assumption) ?_
    rotate_left
    · (intro w9 hS9; try simp only [List.getElem_toArray, List.getElem_cons_zero, List.getElem_cons_succ]
       go_simp <;> rfl)
    try simp only [Act.put, List.setIfInBounds_toArray, List.set_cons_zero, List.set_cons_succ, List.getElem_toArray, List.getElem_cons_zero, List.getElem_cons_succ]
    refine wpAnyH_take (i := 13) (v := ?_) rfl (by kernel_rfl) (by kernel_rfl) (by kernel_rfl) (fun _ _ _ h => h) (Or.inl ⟨by rfl, ?_⟩) (by assumption) ?_
    rotate_left
    · (intro w9 hS9; try simp only [List.getElem_toArray, List.getElem_cons_zero, List.getElem_cons_succ]
       go_simp <;> rfl)
    try simp only [Act.put, List.setIfInBounds_toArray, List.set_cons_zero, List.set_cons_succ, List.getElem_toArray, List.getElem_cons_zero, List.getElem_cons_succ]
    refine wpAnyH_take (i := 14) (v := ?_) rfl (by kernel_rfl) (by kernel_rfl) (by kernel_rfl) (fun _ _ _ h => h) (Or.inl ⟨by rfl, ?_⟩) (by assumption) ?_
    rotate_left
    · (intro w9 hS9; try simp only [List.getElem_toArray, List.getElem_cons_zero, List.getElem_cons_succ]
       go_simp <;> rfl)
    try simp only [Act.put, List.setIfInBounds_toArray, List.set_cons_zero, List.set_cons_succ, List.getElem_toArray, List.getElem_cons_zero, List.getElem_cons_succ]
    refine wpAnyH_ready (rs := [15]) (by kernel_rfl) (by simp) ?_
    refine AllReadyH.cons rfl (fun K hK => ?_) AllReadyH.nil
    try simp only [List.getElem_toArray, List.getElem_cons_zero, List.getElem_cons_succ]
    try go_simp
    go_at_call 70
    refine (HBd.out _).mono ?_
    rintro e V1 ⟨rfl, hb5⟩
    have HB5 := hide (HB4.out.below hb5)
    have HO5 := hide (HO4.out.trans (Only.of_below hb5 _))
    have HR5 := hide (HR4.out.below hb5)
    clear hb5
    refine hK.out _ _ (by obtain ⟨q0, q1, q2, q3, q4, q5⟩ := (HB5.out).six; obtain ⟨r0, r1, r2, r3, r4, r5, r6⟩ := HCell.out _ HR5.out; exact ⟨q0, q1, q2, q3, q4, q5, r0, r1, r2, r3, r4, r5, r6⟩) (fun hHeld => ?_)
    clear hK K
    try simp only [Act.put, List.setIfInBounds_toArray, List.set_cons_zero, List.set_cons_succ, List.getElem_toArray, List.getElem_cons_zero, List.getElem_cons_succ]
    refine wpAnyH_take (i := 16) (v := ?_) rfl (by kernel_rfl) (by kernel_rfl) (by kernel_rfl) (fun _ _ _ h => h) (Or.inl ⟨by rfl, ?_⟩) (by assumption) ?_
    rotate_left
    · (intro w9 hS9; try simp only [List.getElem_toArray, List.getElem_cons_zero, List.getElem_cons_succ]
       go_simp <;> rfl)
    try simp only [Act.put, List.setIfInBounds_toArray, List.set_cons_zero, List.set_cons_succ, List.getElem_toArray, List.getElem_cons_zero, List.getElem_cons_succ]
    refine wpAnyH_take (i := 17) (v := ?_) rfl (by kernel_rfl) (by kernel_rfl) (by kernel_rfl) (fun _ _ _ h => h) (Or.inl ⟨by rfl, ?_⟩) (by assumption) ?_
    rotate_left
    · (intro w9 hS9; try simp only [List.getElem_toArray, List.getElem_cons_zero, List.getElem_cons_succ]
       go_simp <;> rfl)
    try simp only [Act.put, List.setIfInBounds_toArray, List.set_cons_zero, List.set_cons_succ, List.getElem_toArray, List.getElem_cons_zero, List.getElem_cons_succ]
    refine wpAnyH_take (i := 18) (v := ?_) rfl (by kernel_rfl) (by kernel_rfl) (by kernel_rfl) (fun _ _ _ h => h) (Or.inl ⟨by rfl, ?_⟩) (by assumption) ?_
    rotate_left
    · (intro w9 hS9; try simp only [List.getElem_toArray, List.getElem_cons_zero, List.getElem_cons_succ]
       go_simp <;> rfl)
    try simp only [Act.put, List.setIfInBounds_toArray, List.set_cons_zero, List.set_cons_succ, List.getElem_toArray, List.getElem_cons_zero, List.getElem_cons_succ]
    refine wpAnyH_done (by kernel_rfl) ?_ _
    try simp only [Exit.then]
    clear hHeld
    go_wp2_with fail
    go_ret
    exact ⟨rfl, HO5.out⟩
end Go.Proofs.YtdmdohjdmnmabaaGreat
