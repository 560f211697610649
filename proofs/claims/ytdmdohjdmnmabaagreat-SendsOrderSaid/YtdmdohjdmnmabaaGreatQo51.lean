/- What one had to write, by the program. Conditions: those of each theorem. -/
import Derived.Test.YtdmdohjdmnmabaaGreatQo50
import Derived.Test.YtdmdohjdmnmabaaGreatQo48
import Derived.Deep.RegionHeld3
namespace Go.Proofs.YtdmdohjdmnmabaaGreat
open Go.RowKit
set_option linter.unusedVariables false
set_option linter.unusedSimpArgs false

theorem prefix_eq (s t : ByteArray) : Lib.hasPrefix s.data.toList t.data.toList = (decide (t.size ≤ s.size) && decide (s.extract 0 t.size = t)) := by
  rw [← Lib.hasPrefix_of_take, ← Lib.size_eq, ← Lib.size_eq]
  congr 1
  have h1 : (s.extract 0 t.size).toList = s.data.toList.take t.size := by rw [Lib.extract_toList]; simp
  rw [← h1, ← Lib.toList_data]
  rw [Bool.eq_iff_iff]
  simp only [beq_iff_eq, decide_eq_true_eq]
  constructor
  · intro h
    rw [Lib.toList_data, Lib.toList_data] at h
    exact ByteArray.ext (Array.toList_inj.1 h)
  · intro h; rw [h]
set_option maxRecDepth 100000 in
set_option maxHeartbeats 25600000 in
theorem sOrder_c (SA : Option Addr) (sc : Nat) (Ps : List PrV) (A : Option Addr) (c : Nat) (l : List Ev) (id : Int) (w : World) (hs : PrsRd w NoBlk SA Ps) (hsn : Ps.length ≤ maxLen) (hsz : ∀ v ∈ Ps, PrSz v) (hr : Rd w NoBlk A (flat encEv l)) (hn : l.length ≤ 900) (hx : ∀ x ∈ l, x.s.size ≤ 100) (hlc : l.length ≤ c) :
    Calls Tryz.prog 36 #[.slice SA Ps.length sc, .slice A l.length c, .int .i64 id] w fun e w' => e = .returned (.tuple #[.string (ordS Ps l id).1, .bool (ordS Ps l id).2]) ∧ Only NoBlk w w' := by
  have HScr := hide (script_c SA sc Ps A c l id w hs hsn hsz hr (by omega) hx hlc)
  have HOne := hide (fun (w' : World) (k : Only NoBlk w w') (i : Nat) (hi : i < Ps.length) => sone_c (prAt Ps i).s (prAt Ps i).d (prAt Ps i).j (prAt Ps i).PA (prAt Ps i).pc (prAt Ps i).L A c l id w' ((hs.only k (fun _ h => h)).2 _ (prAt_mem hi)) (hsz _ (prAt_mem hi)).1 (hsz _ (prAt_mem hi)).2.1 (hsz _ (prAt_mem hi)).2.2 (hr.only k (fun _ h => h)) (by omega))
  have HOps := hide (fun (w' : World) (k : Only NoBlk w w') (i : Nat) (hi : i < Ps.length) (j : Nat) (hj : j < (prAt Ps i).L.length) => op_cells (((hs.only k (fun _ h => h)).2 _ (prAt_mem hi)).1) j hj)
  have HLz := hide (fun (i : Nat) (hi : i < Ps.length) => (show (prAt Ps i).L.length ≤ 9223372036854775807 from (hsz _ (prAt_mem hi)).1))
  have HLe := hide (fun (p : ProgM) => sends_le p id l)
  obtain ⟨R, hR⟩ : ∃ R, R = ordS Ps l id := ⟨_, rfl⟩
  have HR := hide hR
  rw [← hR]
  obtain ⟨n, hnl⟩ : ∃ n, n = l.length := ⟨_, rfl⟩
  obtain ⟨np, hnp⟩ : ∃ np, np = Ps.length := ⟨_, rfl⟩
  have Hnp := hide hnp
  rw [← hnl] at HScr HOne hn HLe ⊢
  rw [← hnp] at HScr HOne HOps HLz ⊢
  clear hs hsn hsz hr hx hlc hnl hnp hR
  go_enter Tryz.func36, Tryz.ntmps36
  go_wp2_with fail
  refine HScr.out.mono ?_
  rintro e w1 ⟨⟨lwho, sn, lstart, LA, i0, lc, LB, s0, ld, lread, leof, lstatus, rfl⟩, ho1⟩
  obtain ⟨t, ht⟩ : ∃ t, t = (lifeO (lifeGo id 0 l)).taken := ⟨_, rfl⟩
  obtain ⟨sq, hsq⟩ : ∃ sq, sq = scrN l id := ⟨_, rfl⟩
  rw [← ht, ← hsq]
  have HO1 := hide ho1
  have HRt := hide (show scrO Ps l id = true → R = (catS (prM (prAt Ps sq.toNat)) (sendsM (prM (prAt Ps sq.toNat)) id l), rightS (prM (prAt Ps sq.toNat)) (sendsM (prM (prAt Ps sq.toNat)) id l) t) from fun h => by rw [HR.out, hsq, ht]; unfold ordS; rw [if_pos h])
  have HRf := hide (show scrO Ps l id = false → R = (⟨#[]⟩, false) from fun h => by rw [HR.out]; unfold ordS; rw [h]; rfl)
  have HSB := hide (show scrO Ps l id = true → (0 ≤ sq ∧ sq < np) ∧ goodM (prM (prAt Ps sq.toNat)) = true from fun h => by
    unfold scrO scrB at h
    rw [Hnp.out, hsq]
    simp only [Bool.and_eq_true, decide_eq_true_eq] at h
    exact h.2)
  clear ho1 ht hsq HR HScr
  cases hsb : scrO Ps l id with
  | false =>
    have HF := hide (HRf.out hsb)
    have HPv := hide (show prC false (prAt Ps sq.toNat) = #[.string ⟨#[]⟩, .int .i64 0, .int .i64 0, .slice none 0 0] from rfl)
    rw [HPv.out]
    clear hsb HPv HSB HRt HRf
    go_upto_region 2 with fail
    obtain ⟨W2, hW2⟩ : ∃ W2, W2 = (w1.alloc (.cells #[.string ⟨#[]⟩, .int .i64 0, .int .i64 0, .slice none 0 0] 24)).alloc (.cells #[.int .i64 lwho, .int .i64 sn, .int .i64 lstart, .slice LA i0 lc, .slice LB s0 ld, .string lread, .string t, .bool leof, .int .i64 lstatus] 118) := ⟨_, rfl⟩
    have HO2 := hide (show Only NoBlk w W2 by rw [hW2]; exact (HO1.out.alloc _).alloc _)
    rw [← hW2]
    clear hW2
    go_wp2_with fail
    refine bodyPost_ret (v := .tuple #[.string ⟨#[]⟩, .bool false]) (by simp [results, Tryz.results36, go_sem]) rfl ?_
    rw [HF.out]
    exact ⟨rfl, HO2.out⟩
  | true =>
    have HF := hide (HRt.out hsb)
    have hsn0 := HSB.out hsb
    clear hsb HSB HRt HRf
    obtain ⟨q, hq⟩ : ∃ q : Nat, sq = q := ⟨sq.toNat, by omega⟩
    subst hq
    have hqn : q < np := by omega
    have hqt : ((q : Int).toNat) = q := by omega
    rw [hqt] at HF hsn0
    rw [hqt]
    have HOneq := hide (fun (w' : World) (k : Only NoBlk w w') => HOne.out w' k q hqn)
    have HOpq := hide (fun (w' : World) (k : Only NoBlk w w') => HOps.out w' k q hqn)
    have hgd := hsn0.2
    have hLz := HLz.out q hqn
    obtain ⟨v, hv⟩ : ∃ v, v = prAt Ps q := ⟨_, rfl⟩
    rw [← hv] at HOneq HOpq HF hgd hLz ⊢
    clear hv hsn0 HOne HOps
    obtain ⟨vs, vd, vj, vPA, vpc, vL⟩ := v
    obtain ⟨P, hP⟩ : ∃ P, P = progM vs vd vj vL := ⟨_, rfl⟩
    have hP2 : prM ⟨vs, vd, vj, vPA, vpc, vL⟩ = P := hP.symm
    obtain ⟨Q, hQ⟩ : ∃ Q, Q = sendsM P id l := ⟨_, rfl⟩
    rw [hP2, ← hQ] at HF
    rw [hP2] at hgd
    simp only at HOneq HOpq hLz
    rw [← hP, ← hQ] at HOneq
    have hok : ∀ x ∈ Q, sendB P x.op = true := fun x hx => sends_ok (hQ ▸ hx)
    have HTx := hide (fun (k : Nat) (hk : k < Q.length) => (show 0 ≤ Q[k].op ∧ Q[k].op < (vL.length : Int) ∧ txtS P Q[k] = (opAt vL Q[k].op.toNat).o.text from by
      have h1 := sendB_lt (hok _ (List.getElem_mem hk))
      have h2 : P.ops.length = vL.length := by rw [hP]; simp [progM]
      rw [h2] at h1
      refine ⟨h1.1, h1.2.1, ?_⟩
      unfold txtS opAt
      have h3 : Q[k].op.toNat < vL.length := by omega
      rw [hP]
      simp [progM, List.getD, h3]))
    have HCt := hide (fun (k : Nat) (hk : k ≤ Q.length) => cat_le hgd hok k hk)
    have HTl := hide (fun (k : Nat) (hk : k < Q.length) => txt_le hgd (hok _ (List.getElem_mem hk)))
    have hql : Q.length ≤ n + 1 := by rw [hQ]; exact HLe.out P
    have HCs := hide (catS_succ P Q)
    have HLs := hide (lstS_succ P Q)
    clear hQ hok hgd HLe hP hP2
    obtain ⟨vn, hvn⟩ : ∃ vn, vn = vL.length := ⟨_, rfl⟩
    have HPv := hide (show prC true ⟨vs, vd, vj, vPA, vpc, vL⟩ = #[.string vs, .int .i64 vd, .int .i64 vj, .slice vPA vn vpc] by rw [hvn]; rfl)
    rw [HPv.out]
    rw [← hvn] at HOneq HTx HOpq hLz
    have hvm : vn ≤ 9223372036854775807 := hLz
    obtain ⟨N, hN⟩ : ∃ N, N = Q.length := ⟨_, rfl⟩
    have HN := hide hN
    rw [← hN] at hql HOneq
    clear hvn HPv hN
    go_upto_region 2 with fail
    obtain ⟨W2, hW2⟩ : ∃ W2, W2 = (w1.alloc (.cells #[.string vs, .int .i64 vd, .int .i64 vj, .slice vPA vn vpc] 24)).alloc (.cells #[.int .i64 lwho, .int .i64 sn, .int .i64 lstart, .slice LA i0 lc, .slice LB s0 ld, .string lread, .string t, .bool leof, .int .i64 lstatus] 118) := ⟨_, rfl⟩
    obtain ⟨pg, hpg⟩ : ∃ pg, pg = w1.heap.size := ⟨_, rfl⟩
    have HO2 := hide (show Only NoBlk w W2 by rw [hW2]; exact (HO1.out.alloc _).alloc _)
    have HP2 := hide (show Blk W2 pg 24 #[.string vs, .int .i64 vd, .int .i64 vj, .slice vPA vn vpc] by rw [hW2, hpg]; exact (Blk.new _ _ _).alloc _)
    have HL2 := hide (show Blk W2 (pg + 1) 118 #[.int .i64 lwho, .int .i64 sn, .int .i64 lstart, .slice LA i0 lc, .slice LB s0 ld, .string lread, .string t, .bool leof, .int .i64 lstatus] by rw [hW2, hpg]; exact Blk.new' (by simp))
    rw [← hW2]
    try rw [← hpg]
    clear hW2 hpg HO1
    go_upto_region 5 with fail
    obtain ⟨W3, hW3⟩ : ∃ W3, W3 = W2.alloc (.cells #[.pointer none, .slice none 0 0] 124) := ⟨_, rfl⟩
    obtain ⟨b, hb⟩ : ∃ b, b = W2.heap.size := ⟨_, rfl⟩
    have HO3 := hide (show Only NoBlk w W3 by rw [hW3]; exact HO2.out.alloc _)
    have HP3 := hide (show Blk W3 pg 24 #[.string vs, .int .i64 vd, .int .i64 vj, .slice vPA vn vpc] by rw [hW3]; exact HP2.out.alloc _)
    have HL3 := hide (show Blk W3 (pg + 1) 118 #[.int .i64 lwho, .int .i64 sn, .int .i64 lstart, .slice LA i0 lc, .slice LB s0 ld, .string lread, .string t, .bool leof, .int .i64 lstatus] by rw [hW3]; exact HL2.out.alloc _)
    have HD3 := hide (show BldAt b b ⟨#[]⟩ W3 by rw [hW3, hb]; exact BldAt.new)
    have hbw : w.heap.size ≤ b := by rw [hb]; exact HO2.out.size
    rw [← hW3, ← hb]
    clear hW3 hb HO2 HP2 HL2
    obtain ⟨⟨p0, p1, p2, p3⟩, _⟩ := HP3.out.four
    go_wp2_with fail
    refine (HOneq.out _ HO3.out).mono ?_
    rintro e V1 ⟨⟨v5, rfl, hown5⟩, ho5⟩
    obtain ⟨VA, vc2, rfl, _⟩ := own_cap hown5
    have HRo := hide hown5
    have HO5 := hide (HO3.out.trans ho5)
    have HP5 := hide (HP3.out.only ho5 (fun h => h))
    have HL5 := hide (HL3.out.only ho5 (fun h => h))
    have HD5 := hide (HD3.out.only ho5)
    obtain ⟨base, hbase⟩ : ∃ base, base = W3.heap.size := ⟨_, rfl⟩
    rw [← hbase] at HRo
    clear hown5 ho5 p0 p1 p2 p3 HP3 HL3 HD3 HOneq hbase
    go_wp2_with fail
    go_loopw [12, 30] (fun le i wr => ∃ k : Nat, k ≤ N ∧ le = .int .i64 (lstS P (Q.take k)) ∧ i = .int .i64 k ∧ Hid (Only NoBlk w wr) ∧ Hid (Blk wr pg 24 #[.string vs, .int .i64 vd, .int .i64 vj, .slice vPA vn vpc]) ∧ Hid (Blk wr (pg + 1) 118 #[.int .i64 lwho, .int .i64 sn, .int .i64 lstart, .slice LA i0 lc, .slice LB s0 ld, .string lread, .string t, .bool leof, .int .i64 lstatus]) ∧ Hid (BldAt b b (catS P (Q.take k)) wr) ∧ Hid (wr.ownsRow base 109 7 (.slice VA N vc2) N (flat encSd Q))) (fun _ i _ => N - (intOf i).toNat)
    case atStart => exact ⟨0, Nat.zero_le _, rfl, rfl, HO5, HP5, HL5, HD5, HRo⟩
    case round =>
      clear HO5 HP5 HL5 HD5 HRo
      obtain ⟨k, hk, rfl, rfl, HB, HP, HL, HD, HRq⟩ := hrel
      by_cases hlt : k < N
      case neg =>
        obtain rfl : k = N := by omega
        have hd : decide ((k : Int) < (k : Int)) = false := by simp
        have hd2 : decide (k < k) = false := by simp
        have e0 : Q.take k = Q := by rw [HN.out, List.take_length]
        rw [e0] at HD
        rw [e0]
        have HFr := hide (show R = (catS P Q, decide (lstS P Q ≤ t.size) && (decide (t.size ≤ (catS P Q).size) && decide ((catS P Q).extract 0 t.size = t))) from HF.out)
        obtain ⟨cs, hcs⟩ : ∃ cs, cs = catS P Q := ⟨_, rfl⟩
        obtain ⟨le, hle⟩ : ∃ le, le = lstS P Q := ⟨_, rfl⟩
        rw [← hcs, ← hle] at HFr
        rw [← hcs] at HD
        rw [← hle]
        clear hcs hle e0 HF HCs HLs HTx HCt HTl HP HRq
        go_upto_region 12 with fail
        by_cases g1 : le ≤ t.size
        case neg =>
          have f1 : decide ((le : Int) ≤ (t.size : Int)) = false := by simp; omega
          have f2 : decide (le ≤ t.size) = false := by simp; omega
          obtain ⟨V0, hV0⟩ : ∃ V9, V9 = wr.drew := ⟨_, rfl⟩
          have HO0 := hide (show Only NoBlk w V0 by rw [hV0]; exact HB.out.drew)
          have HL0 := hide (show Blk V0 (pg + 1) 118 #[.int .i64 lwho, .int .i64 sn, .int .i64 lstart, .slice LA i0 lc, .slice LB s0 ld, .string lread, .string t, .bool leof, .int .i64 lstatus] by rw [hV0]; exact HL.out.drew)
          have HD0 := hide (show BldAt b b cs V0 by rw [hV0]; exact HD.out.drew)
          refine wp_region_held (S := fun w' => w'.cell? ⟨pg + 1, 6, none⟩ = some (.string t)) (by kernel_rfl) ?_
          change wpAnyH _ _ _ _ _ _ _ _ wr.drew
          have hHeld : (fun w' => w'.cell? ⟨pg + 1, 6, none⟩ = some (.string t)) wr.drew := (by rw [← hV0]; show V0.cell? _ = _; rw [HL0.out.cell]; rfl)
          rw [← hV0] at hHeld ⊢
          simp only [List.size_toArray, List.length_cons, List.length_nil, Nat.zero_add, Nat.reduceAdd]
          clear hV0
          refine wpAnyH_take (i := 1) (v := ?_) rfl (by kernel_rfl) (by kernel_rfl) (by kernel_rfl) (fun _ _ _ h => h) (Or.inl ⟨by rfl, ?_⟩) (by assumption) ?_
          rotate_left
          · (intro w9 hS9; try simp only [List.getElem_toArray, List.getElem_cons_zero, List.getElem_cons_succ]
             go_simp <;> rfl)
          refine wpAnyH_take (i := 2) (v := ?_) rfl (by kernel_rfl) (by kernel_rfl) (by kernel_rfl) (fun _ _ _ h => h) (Or.inl ⟨by rfl, ?_⟩) (by assumption) ?_
          rotate_left
          · (intro w9 hS9; try simp only [List.getElem_toArray, List.getElem_cons_zero, List.getElem_cons_succ]
             go_simp <;> rfl)
          refine wpAnyH_take (i := 3) (v := ?_) rfl (by kernel_rfl) (by kernel_rfl) (by kernel_rfl) (fun _ _ _ h => h) (Or.inl ⟨by rfl, ?_⟩) (by assumption) ?_
          rotate_left
          · (intro w9 hS9; try simp only [List.getElem_toArray, List.getElem_cons_zero, List.getElem_cons_succ]
             go_simp <;> rfl)
          refine wpAnyH_take (i := 4) (v := ?_) rfl (by kernel_rfl) (by kernel_rfl) (by kernel_rfl) (fun _ _ _ h => h) (Or.inl ⟨by rfl, ?_⟩) (by assumption) ?_
          rotate_left
          · (intro w9 hS9; try simp only [List.getElem_toArray, List.getElem_cons_zero, List.getElem_cons_succ]
             go_simp <;> rfl)
          refine wpAnyH_take (i := 5) (v := ?_) rfl (by kernel_rfl) (by kernel_rfl) (by kernel_rfl) (fun _ _ _ h => h) (Or.inl ⟨by rfl, ?_⟩) (by assumption) ?_
          rotate_left
          · (intro w9 hS9; try simp only [List.getElem_toArray, List.getElem_cons_zero, List.getElem_cons_succ]
             go_simp <;> rfl)
          try simp only [Act.put, List.setIfInBounds_toArray, List.set_cons_zero, List.set_cons_succ, List.getElem_toArray, List.getElem_cons_zero, List.getElem_cons_succ]
          refine wpAnyH_ready (rs := [0]) (by kernel_rfl) (by simp) ?_
          refine AllReadyH.cons rfl (fun K hK => ?_) AllReadyH.nil
          try simp only [List.getElem_toArray, List.getElem_cons_zero, List.getElem_cons_succ]
          try go_simp
          refine (BOut_c b b cs _ HD0.out (Nat.le_of_lt HD0.out.lt)).mono ?_
          rintro e V1 ⟨rfl, hd1, hb1, hk1⟩
          have HD1 := hide hd1
          have HL1 := hide (HD0.out.side HL0.out hb1 hk1 (by decide) (by decide))
          have HO1 := hide (HO0.out.fresh (only_from hb1) (fun i _ h => Or.inr (by have : b ≤ i := h; omega)))
          clear hd1 hb1 hk1
          refine hK.out _ _ (by rw [HL1.out.cell]; rfl) (fun hHeld => ?_)
          clear hK K
          refine wpAnyH_take (i := 6) (v := ?_) rfl (by kernel_rfl) (by kernel_rfl) (by kernel_rfl) (fun _ _ _ h => h) (Or.inl ⟨by rfl, ?_⟩) (by assumption) ?_
          rotate_left
          · (intro w9 hS9; try simp only [List.getElem_toArray, List.getElem_cons_zero, List.getElem_cons_succ]
             go_simp <;> rfl)
          refine wpAnyH_take (i := 7) (v := undef) rfl (by kernel_rfl) (by kernel_rfl) (by kernel_rfl) (fun _ _ _ h => h) (Or.inr ⟨by rfl, rfl⟩) (by assumption) ?_
          refine wpAnyH_take (i := 8) (v := undef) rfl (by kernel_rfl) (by kernel_rfl) (by kernel_rfl) (fun _ _ _ h => h) (Or.inr ⟨by rfl, rfl⟩) (by assumption) ?_
          refine wpAnyH_take (i := 9) (v := undef) rfl (by kernel_rfl) (by kernel_rfl) (by kernel_rfl) (fun _ _ _ h => h) (Or.inr ⟨by rfl, rfl⟩) (by assumption) ?_
          refine wpAnyH_take (i := 10) (v := undef) rfl (by kernel_rfl) (by kernel_rfl) (by kernel_rfl) (fun _ _ _ h => h) (Or.inr ⟨by rfl, rfl⟩) (by assumption) ?_
          refine wpAnyH_take (i := 11) (v := ?_) rfl (by kernel_rfl) (by kernel_rfl) (by kernel_rfl) (fun _ _ _ h => h) (Or.inl ⟨by rfl, ?_⟩) (by assumption) ?_
          rotate_left
          · (intro w9 hS9; try simp only [List.getElem_toArray, List.getElem_cons_zero, List.getElem_cons_succ]
             go_simp <;> rfl)
          refine wpAnyH_take (i := 12) (v := ?_) rfl (by kernel_rfl) (by kernel_rfl) (by kernel_rfl) (fun _ _ _ h => h) (Or.inl ⟨by rfl, ?_⟩) (by assumption) ?_
          rotate_left
          · (intro w9 hS9; try simp only [List.getElem_toArray, List.getElem_cons_zero, List.getElem_cons_succ]
             go_simp <;> rfl)
          refine wpAnyH_take (i := 13) (v := ?_) rfl (by kernel_rfl) (by kernel_rfl) (by kernel_rfl) (fun _ _ _ h => h) (Or.inl ⟨by rfl, ?_⟩) (by assumption) ?_
          rotate_left
          · (intro w9 hS9; try simp only [List.getElem_toArray, List.getElem_cons_zero, List.getElem_cons_succ]
             go_simp <;> rfl)
          try simp only [Act.put, List.setIfInBounds_toArray, List.set_cons_zero, List.set_cons_succ, List.getElem_toArray, List.getElem_cons_zero, List.getElem_cons_succ]
          refine wpAnyH_done (by kernel_rfl) ?_ _
          try simp only [Exit.then]
          clear hHeld
          go_wp2_with fail
          refine bodyPost_ret (v := .tuple #[.string cs, .bool false]) (by simp [results, Tryz.results36, go_sem]) rfl ?_
          exact ⟨by rw [HFr.out]; simp [f2], HO1.out⟩
        case pos =>
          have f1 : decide ((le : Int) ≤ (t.size : Int)) = true := by simp; omega
          have f2 : decide (le ≤ t.size) = true := by simp; omega
          have HFr2 := hide (show R = (cs, Lib.hasPrefix cs.data.toList t.data.toList) by rw [HFr.out, prefix_eq, f2]; rfl)
          obtain ⟨hp, hhp⟩ : ∃ hp, hp = Lib.hasPrefix cs.data.toList t.data.toList := ⟨_, rfl⟩
          have HPx := hide (show ∀ w', Calls Tryz.prog 76 #[.string cs, .string t] w' fun e w2 => e = .returned (.bool hp) ∧ w2 = w' from fun w' => by rw [hhp]; exact Tryz.strings_HasPrefix cs t w')
          rw [← hhp] at HFr2
          clear hhp HFr
          obtain ⟨V0, hV0⟩ : ∃ V9, V9 = wr.drew := ⟨_, rfl⟩
          have HO0 := hide (show Only NoBlk w V0 by rw [hV0]; exact HB.out.drew)
          have HL0 := hide (show Blk V0 (pg + 1) 118 #[.int .i64 lwho, .int .i64 sn, .int .i64 lstart, .slice LA i0 lc, .slice LB s0 ld, .string lread, .string t, .bool leof, .int .i64 lstatus] by rw [hV0]; exact HL.out.drew)
          have HD0 := hide (show BldAt b b cs V0 by rw [hV0]; exact HD.out.drew)
          refine wp_region_held (S := fun w' => w'.cell? ⟨pg + 1, 6, none⟩ = some (.string t)) (by kernel_rfl) ?_
          change wpAnyH _ _ _ _ _ _ _ _ wr.drew
          have hHeld : (fun w' => w'.cell? ⟨pg + 1, 6, none⟩ = some (.string t)) wr.drew := (by rw [← hV0]; show V0.cell? _ = _; rw [HL0.out.cell]; rfl)
          rw [← hV0] at hHeld ⊢
          simp only [List.size_toArray, List.length_cons, List.length_nil, Nat.zero_add, Nat.reduceAdd]
          clear hV0
          refine wpAnyH_take (i := 1) (v := ?_) rfl (by kernel_rfl) (by kernel_rfl) (by kernel_rfl) (fun _ _ _ h => h) (Or.inl ⟨by rfl, ?_⟩) (by assumption) ?_
          rotate_left
          · (intro w9 hS9; try simp only [List.getElem_toArray, List.getElem_cons_zero, List.getElem_cons_succ]
             go_simp <;> rfl)
          refine wpAnyH_take (i := 2) (v := ?_) rfl (by kernel_rfl) (by kernel_rfl) (by kernel_rfl) (fun _ _ _ h => h) (Or.inl ⟨by rfl, ?_⟩) (by assumption) ?_
          rotate_left
          · (intro w9 hS9; try simp only [List.getElem_toArray, List.getElem_cons_zero, List.getElem_cons_succ]
             go_simp <;> rfl)
          refine wpAnyH_take (i := 3) (v := ?_) rfl (by kernel_rfl) (by kernel_rfl) (by kernel_rfl) (fun _ _ _ h => h) (Or.inl ⟨by rfl, ?_⟩) (by assumption) ?_
          rotate_left
          · (intro w9 hS9; try simp only [List.getElem_toArray, List.getElem_cons_zero, List.getElem_cons_succ]
             go_simp <;> rfl)
          refine wpAnyH_take (i := 4) (v := ?_) rfl (by kernel_rfl) (by kernel_rfl) (by kernel_rfl) (fun _ _ _ h => h) (Or.inl ⟨by rfl, ?_⟩) (by assumption) ?_
          rotate_left
          · (intro w9 hS9; try simp only [List.getElem_toArray, List.getElem_cons_zero, List.getElem_cons_succ]
             go_simp <;> rfl)
          refine wpAnyH_take (i := 5) (v := ?_) rfl (by kernel_rfl) (by kernel_rfl) (by kernel_rfl) (fun _ _ _ h => h) (Or.inl ⟨by rfl, ?_⟩) (by assumption) ?_
          rotate_left
          · (intro w9 hS9; try simp only [List.getElem_toArray, List.getElem_cons_zero, List.getElem_cons_succ]
             go_simp <;> rfl)
          try simp only [Act.put, List.setIfInBounds_toArray, List.set_cons_zero, List.set_cons_succ, List.getElem_toArray, List.getElem_cons_zero, List.getElem_cons_succ]
          refine wpAnyH_ready (rs := [0]) (by kernel_rfl) (by simp) ?_
          refine AllReadyH.cons rfl (fun K hK => ?_) AllReadyH.nil
          try simp only [List.getElem_toArray, List.getElem_cons_zero, List.getElem_cons_succ]
          try go_simp
          refine (BOut_c b b cs _ HD0.out (Nat.le_of_lt HD0.out.lt)).mono ?_
          rintro e V1 ⟨rfl, hd1, hb1, hk1⟩
          have HD1 := hide hd1
          have HL1 := hide (HD0.out.side HL0.out hb1 hk1 (by decide) (by decide))
          have HO1 := hide (HO0.out.fresh (only_from hb1) (fun i _ h => Or.inr (by have : b ≤ i := h; omega)))
          clear hd1 hb1 hk1
          refine hK.out _ _ (by rw [HL1.out.cell]; rfl) (fun hHeld => ?_)
          clear hK K
          refine wpAnyH_take (i := 6) (v := ?_) rfl (by kernel_rfl) (by kernel_rfl) (by kernel_rfl) (fun _ _ _ h => h) (Or.inl ⟨by rfl, ?_⟩) (by assumption) ?_
          rotate_left
          · (intro w9 hS9; try simp only [List.getElem_toArray, List.getElem_cons_zero, List.getElem_cons_succ]
             go_simp <;> rfl)
          refine wpAnyH_take (i := 8) (v := ?_) rfl (by kernel_rfl) (by kernel_rfl) (by kernel_rfl) (fun _ _ _ h => h) (Or.inl ⟨by rfl, ?_⟩) (by assumption) ?_
          rotate_left
          · (intro w9 hS9; try simp only [List.getElem_toArray, List.getElem_cons_zero, List.getElem_cons_succ]
             go_simp <;> rfl)
          refine wpAnyH_take (i := 9) (v := ?_) rfl (by kernel_rfl) (by kernel_rfl) (by kernel_rfl) (fun _ _ _ h => h) (Or.inl ⟨by rfl, ?_⟩) (by assumption) ?_
          rotate_left
          · (intro w9 hS9; try simp only [List.getElem_toArray, List.getElem_cons_zero, List.getElem_cons_succ]
             go_simp <;> rfl)
          try simp only [Act.put, List.setIfInBounds_toArray, List.set_cons_zero, List.set_cons_succ, List.getElem_toArray, List.getElem_cons_zero, List.getElem_cons_succ]
          refine wpAnyH_ready (rs := [7]) (by kernel_rfl) (by simp) ?_
          refine AllReadyH.cons rfl (fun K hK => ?_) AllReadyH.nil
          try simp only [List.getElem_toArray, List.getElem_cons_zero, List.getElem_cons_succ]
          try go_simp
          refine (BOut_c b b cs _ HD1.out (Nat.le_of_lt HD1.out.lt)).mono ?_
          rintro e V2 ⟨rfl, hd2, hb2, hk2⟩
          have HD2 := hide hd2
          have HL2 := hide (HD1.out.side HL1.out hb2 hk2 (by decide) (by decide))
          have HO2 := hide (HO1.out.fresh (only_from hb2) (fun i _ h => Or.inr (by have : b ≤ i := h; omega)))
          clear hd2 hb2 hk2
          refine hK.out _ _ (by rw [HL2.out.cell]; rfl) (fun hHeld => ?_)
          clear hK K
          try simp only [Act.put, List.setIfInBounds_toArray, List.set_cons_zero, List.set_cons_succ, List.getElem_toArray, List.getElem_cons_zero, List.getElem_cons_succ]
          refine wpAnyH_ready (rs := [10]) (by kernel_rfl) (by simp) ?_
          refine AllReadyH.cons rfl (fun K hK => ?_) AllReadyH.nil
          try simp only [List.getElem_toArray, List.getElem_cons_zero, List.getElem_cons_succ]
          try go_simp
          refine (HPx.out _).mono ?_
          rintro e V3 ⟨rfl, rfl⟩
          refine hK.out _ _ (by rw [HL2.out.cell]; rfl) (fun hHeld => ?_)
          clear hK K
          refine wpAnyH_take (i := 11) (v := ?_) rfl (by kernel_rfl) (by kernel_rfl) (by kernel_rfl) (fun _ _ _ h => h) (Or.inl ⟨by rfl, ?_⟩) (by assumption) ?_
          rotate_left
          · (intro w9 hS9; try simp only [List.getElem_toArray, List.getElem_cons_zero, List.getElem_cons_succ]
             go_simp <;> rfl)
          refine wpAnyH_take (i := 12) (v := ?_) rfl (by kernel_rfl) (by kernel_rfl) (by kernel_rfl) (fun _ _ _ h => h) (Or.inl ⟨by rfl, ?_⟩) (by assumption) ?_
          rotate_left
          · (intro w9 hS9; try simp only [List.getElem_toArray, List.getElem_cons_zero, List.getElem_cons_succ]
             go_simp <;> rfl)
          refine wpAnyH_take (i := 13) (v := ?_) rfl (by kernel_rfl) (by kernel_rfl) (by kernel_rfl) (fun _ _ _ h => h) (Or.inl ⟨by rfl, ?_⟩) (by assumption) ?_
          rotate_left
          · (intro w9 hS9; try simp only [List.getElem_toArray, List.getElem_cons_zero, List.getElem_cons_succ]
             go_simp <;> rfl)
          try simp only [Act.put, List.setIfInBounds_toArray, List.set_cons_zero, List.set_cons_succ, List.getElem_toArray, List.getElem_cons_zero, List.getElem_cons_succ]
          refine wpAnyH_done (by kernel_rfl) ?_ _
          try simp only [Exit.then]
          clear hHeld
          go_wp2_with fail
          refine bodyPost_ret (v := .tuple #[.string cs, .bool hp]) (by simp [results, Tryz.results36, go_sem]) rfl ?_
          exact ⟨by rw [HFr2.out], HO2.out⟩
      case pos =>
        have hkQ : k < Q.length := by rw [← HN.out]; exact hlt
        have d1 : decide ((k : Int) < (N : Int)) = true := by simp; exact hlt
        have d2 : decide (k < N) = true := by simp; exact hlt
        have j1 : (0 : Int) ≤ (k : Int) := by omega
        have j2 : (k : Int) < (N : Int) := by omega
        have w0 : IntKind.i64.wrap ((k : Int) + 1) = (k : Int) + 1 := IntWalk.i64_in _ (by omega)
        have H1 := hide (HCs.out k hkQ)
        have H2 := hide (HLs.out k hkQ)
        have hc1 := HCt.out k (by omega)
        have hc2 := HTl.out k hkQ
        obtain ⟨t0, t1, t2⟩ := HTx.out k hkQ
        obtain ⟨ob, oo, hVA, _, hb, hc⟩ := flat_cells encSd_len (Rd.of_own (M := NoBlk) HRq.out (fun _ h => h.elim)) k Q[k] (by simp [hkQ]) (by omega)
        subst hVA
        obtain ⟨tx, htx⟩ : ∃ tx, tx = txtS P Q[k] := ⟨_, rfl⟩
        rw [← htx] at t2 H1 hc2
        obtain ⟨y, hy⟩ : ∃ y, y = Q[k] := ⟨_, rfl⟩
        rw [← hy] at t0 t1 t2 hc
        have c0 : wr.cell? ⟨ob, oo + k * 7, none⟩ = some (.int .i64 y.id) := hc 0 (by omega)
        have c1 : wr.cell? ⟨ob, oo + k * 7 + 1, none⟩ = some (.int .i64 y.op) := hc 1 (by omega)
        have c2 : wr.cell? ⟨ob, oo + k * 7 + 2, none⟩ = some (.int .i64 y.long) := hc 2 (by omega)
        have c3 : wr.cell? ⟨ob, oo + k * 7 + 3, none⟩ = some (.int .i64 y.from_) := hc 3 (by omega)
        have c4 : wr.cell? ⟨ob, oo + k * 7 + 4, none⟩ = some (.int .i64 y.taken) := hc 4 (by omega)
        have c5 : wr.cell? ⟨ob, oo + k * 7 + 5, none⟩ = some (.bool y.done) := hc 5 (by omega)
        have c6 : wr.cell? ⟨ob, oo + k * 7 + 6, none⟩ = some (.int .i64 y.at_) := hc 6 (by omega)
        obtain ⟨cs, hcs⟩ : ∃ cs, cs = catS P (Q.take k) := ⟨_, rfl⟩
        rw [← hcs] at hc1 H1 H2 HD
        obtain ⟨o, ho⟩ : ∃ o : Nat, y.op = o := ⟨y.op.toNat, by omega⟩
        have hsum : cs.size + tx.size ≤ 140737488355328 := by omega
        rw [ho, show ((o : Int).toNat) = o by omega] at t2
        have o1 : (0 : Int) ≤ (o : Int) := by omega
        have o2 : (o : Int) < (vn : Int) := by omega
        have HOo := hide (fun (w' : World) (kk : Only NoBlk w w') => HOpq.out w' kk o (by omega))
        rw [← t2] at HOo
        rw [ho] at c1
        clear hc t0 t1 t2 htx hcs hc1 hc2 hy
        go_upto_region 9 with fail
        obtain ⟨W7, hW7⟩ : ∃ W7, W7 = wr.alloc (.cells #[.int .i64 y.id, .int .i64 (o : Int), .int .i64 y.long, .int .i64 y.from_, .int .i64 y.taken, .bool y.done, .int .i64 y.at_] 109) := ⟨_, rfl⟩
        obtain ⟨xb, hxb⟩ : ∃ xb, xb = wr.heap.size := ⟨_, rfl⟩
        have HO7 := hide (show Only NoBlk w W7 by rw [hW7]; exact HB.out.alloc _)
        have HP7 := hide (show Blk W7 pg 24 #[.string vs, .int .i64 vd, .int .i64 vj, .slice vPA vn vpc] by rw [hW7]; exact HP.out.alloc _)
        have HL7 := hide (show Blk W7 (pg + 1) 118 #[.int .i64 lwho, .int .i64 sn, .int .i64 lstart, .slice LA i0 lc, .slice LB s0 ld, .string lread, .string t, .bool leof, .int .i64 lstatus] by rw [hW7]; exact HL.out.alloc _)
        have HD7 := hide (show BldAt b b cs W7 by rw [hW7]; exact HD.out.alloc _)
        have HR7 := hide (show W7.ownsRow base 109 7 (.slice (some ⟨ob, oo, none⟩) N vc2) N (flat encSd Q) by rw [hW7]; exact own_only HRq.out ((Only.refl NoBlk _).alloc _) (fun _ _ h => h.elim))
        have HX7 := hide (show W7.cell? ⟨xb, 1, none⟩ = some (.int .i64 (o : Int)) by rw [hW7, hxb, (Blk.new _ _ _).cell]; rfl)
        rw [← hW7, ← hxb]
        clear hW7 hxb c0 c1 c2 c3 c4 c5 c6 HB HP HL HD HRq
        go_wp2_with fail
        refine (BLen_c b b cs _ HD7.out).mono ?_
        rintro e V8 ⟨rfl, rfl⟩
        obtain ⟨⟨_, _, _, p3⟩, _⟩ := HP7.out.four
        have x1 := HX7.out
        obtain ⟨ab, ao, hPA, hab, -, a1, -⟩ := HOo.out _ HO7.out
        subst hPA
        go_wp2_with fail
        refine (BStr_c b b cs tx _ HD7.out hsum (Nat.le_of_lt HD7.out.lt)).mono ?_
        rintro e V9 ⟨rfl, hd9, hb9, hk9⟩
        have HD9 := hide hd9
        have HP9 := hide (HD7.out.side HP7.out hb9 hk9 (by decide) (by decide))
        have HL9 := hide (HD7.out.side HL7.out hb9 hk9 (by decide) (by decide))
        have HR9 := hide (HD7.out.row HR7.out hb9 hk9 (by decide) (by decide))
        have HO9 := hide (HO7.out.fresh (only_from hb9) (fun i _ h => Or.inr (by have : b ≤ i := h; omega)))
        clear hd9 hb9 hk9 p3 x1 a1 hab
        go_wp2_with fail
        go_roundw
        case rel => exact ⟨k + 1, by omega, by rw [H2.out], by go_num, HO9, HP9, HL9, by rw [H1.out]; exact HD9, HR9⟩
        case measure => simp [intOf]; omega
end Go.Proofs.YtdmdohjdmnmabaaGreat
