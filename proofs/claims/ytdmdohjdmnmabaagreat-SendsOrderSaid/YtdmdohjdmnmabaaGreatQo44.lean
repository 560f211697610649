/- The walk through events that notes one's sends: it ends one, comes to one, one is done, bytes are taken. Conditions: those of each theorem. -/
import Derived.Test.YtdmdohjdmnmabaaGreatQo43
import Derived.Test.YtdmdohjdmnmabaaGreatQo21
namespace Go.Proofs.YtdmdohjdmnmabaaGreat
open Go.RowKit
set_option linter.unusedVariables false
set_option linter.unusedSimpArgs false

set_option maxRecDepth 100000 in
set_option maxHeartbeats 6400000 in
theorem swdone_c (base g : Nat) (q : SwP) (f : SwM) (w : World) (h : SwAt w base g q f) :
    Calls Tryz.prog 136 #[.pointer (some ⟨g, 0, none⟩)] w fun e w' => e = .returned (.tuple #[]) ∧ SwAt w' base g q (doneS f) ∧ Only (base ≤ ·) w w' ∧ SwKp w w' := by
  obtain ⟨vo, h⟩ := h
  have hgb := h.hg
  obtain ⟨k0, k1, k2, k3, k4, k5, k6, k7, k8, k9, k10, k11, k12, k13, k14, k15⟩ := h.blk.sixteen
  have f13 := h.blk.frozen 13
  have f14 := h.blk.frozen 14
  have HM := hide h
  clear h
  cases hd : f.x.done with
  | true =>
    have HQ := hide (show doneS f = f from by unfold doneS doneX; rw [if_pos hd])
    rw [hd] at k13
    clear hd
    go_enter Tryz.func136, Tryz.ntmps136
    go_wp2_with fail
    go_end0
    exact ⟨rfl, by rw [HQ.out]; exact ⟨vo, HM.out⟩, Only.refl _ _, SwKp.refl _⟩
  | false =>
    have HQ := hide (show doneS f = { f with x := { f.x with done := true, at_ := nowS f } } from by unfold doneS doneX; rw [if_neg (by simp [hd])])
    rw [hd] at k13
    clear hd
    go_enter Tryz.func136, Tryz.ntmps136
    go_wp2_with fail
    go_end0
    have HM2 := hide (HM.out.set (f' := { f with x := { f.x with done := true } }) 13 (.bool true) rfl rfl)
    refine ⟨rfl, ?_, ((Only.refl _ w).setCell (Or.inl hgb) _).setCell (Or.inl hgb) _, (HM.out.kset 13 _).trans (HM2.out.kset 14 _)⟩
    rw [HQ.out]
    exact ⟨vo, (HM.out.set (f' := { f with x := { f.x with done := true } }) 13 (.bool true) rfl rfl).set (f' := { f with x := { f.x with done := true, at_ := nowS f } }) 14 (.int .i64 (nowS f)) rfl rfl⟩
set_option maxRecDepth 100000 in
set_option maxHeartbeats 6400000 in
theorem swwrite_c (base g : Nat) (q : SwP) (f : SwM) (n : Int) (kk : Nat) (w : World) (h : SwAt w base g q f) (hsm : SwSm f kk) :
    Calls Tryz.prog 118 #[.pointer (some ⟨g, 0, none⟩), .int .i64 n] w fun e w' => e = .returned (.tuple #[]) ∧ SwAt w' base g q (writeS n f) ∧ Only (base ≤ ·) w w' ∧ SwKp w w' := by
  obtain ⟨vo, h⟩ := h
  have hgb := h.hg
  obtain ⟨k0, k1, k2, k3, k4, k5, k6, k7, k8, k9, k10, k11, k12, k13, k14, k15⟩ := h.blk.sixteen
  have f12 := h.blk.frozen 12
  have HM := hide h
  have ht0 := hsm.t0
  have ht1 := hsm.t1
  have w1 : IntKind.i64.wrap (f.x.taken + min (max n 0) 1000000000) = f.x.taken + min (max n 0) 1000000000 := IntWalk.i64_in _ (by omega)
  clear h hsm ht0 ht1
  cases ho : f.open_ with
  | false =>
    have HQ := hide (show writeS n f = f from by unfold writeS; rw [if_neg (by simp [ho])])
    rw [ho] at k7
    clear ho
    go_enter Tryz.func118, Tryz.ntmps118
    go_wp2_with fail
    refine bodyPost_ret (results_none rfl _ _ _) rfl ?_
    exact ⟨rfl, by rw [HQ.out]; exact ⟨vo, HM.out⟩, Only.refl _ _, SwKp.refl _⟩
  | true =>
    have HQ := hide (show writeS n f = { f with x := writeX (nowS f) n f.x } from by unfold writeS; rw [if_pos ho])
    rw [ho] at k7
    clear ho
    obtain ⟨T, hT⟩ : ∃ T, T = richD f.x.taken n := ⟨_, rfl⟩
    have hT' : min (f.x.taken + min (max n 0) 1000000000) 1000000000 = T := by rw [hT]; rfl
    have HX := hide (show writeX (nowS f) n f.x = if f.x.long ≤ T then doneX (nowS f) { f.x with taken := T } else { f.x with taken := T } from by rw [hT]; rfl)
    have HS := hide (HM.out.set (f' := { f with x := { f.x with taken := T } }) 12 (.int .i64 T) rfl rfl)
    obtain ⟨W, hW⟩ : ∃ W, W = w.setCell ⟨g, 12, none⟩ (.int .i64 T) := ⟨_, rfl⟩
    rw [← hW] at HS
    have HO := hide (show Only (base ≤ ·) w W by rw [hW]; exact (Only.refl _ w).setCell (Or.inl hgb) _)
    have HKp := hide (show SwKp w W by rw [hW]; exact HM.out.kset 12 _)
    have HW := hide hW
    have HT := hide hT'
    clear hT hT' hW
    go_enter Tryz.func118, Tryz.ntmps118
    go_upto_region 2 with fail
    rw [HT.out]
    rw [← HW.out]
    clear k0 k1 k2 k3 k4 k5 k6 k7 k8 k9 k10 k11 k12 k13 k14 k15 f12 w1
    obtain ⟨k0, k1, k2, k3, k4, k5, k6, k7, k8, k9, k10, k11, k12, k13, k14, k15⟩ := HS.out.blk.sixteen
    go_region
    by_cases hl : f.x.long ≤ T
    · have HQ2 := hide (show writeX (nowS f) n f.x = doneX (nowS f) { f.x with taken := T } from HX.out.trans (if_pos hl))
      go_wp2_with fail
      all_goals first
        | (exfalso; omega)
        | (refine (swdone_c base g q { f with x := { f.x with taken := T } } W.drew ⟨vo, HS.out.drew⟩).mono ?_
           rintro e w3 ⟨rfl, h3, ho3, hk3⟩
           have H3 := hide h3
           have HO3 := hide (HO.out.drew.trans ho3)
           have HK3 := hide (HKp.out.drew.trans hk3)
           clear h3 ho3 hk3
           go_wp2_with fail
           go_end0
           refine ⟨rfl, ?_, HO3.out, HK3.out⟩
           rw [HQ.out, HQ2.out]
           exact H3.out)
    · have HQ2 := hide (show writeX (nowS f) n f.x = { f.x with taken := T } from HX.out.trans (if_neg hl))
      go_wp2_with fail
      all_goals first
        | (exfalso; omega)
        | (go_end0
           refine ⟨rfl, ?_, HO.out.drew, HKp.out.drew⟩
           rw [HQ.out, HQ2.out]
           exact ⟨vo, HS.out.drew⟩)
set_option maxRecDepth 100000 in
set_option maxHeartbeats 6400000 in
theorem swclose_c (base g : Nat) (q : SwP) (f : SwM) (kk : Nat) (w : World) (h : SwAt w base g q f) (hsm : SwSm f kk) (hkk : kk ≤ 1000000) :
    Calls Tryz.prog 98 #[.pointer (some ⟨g, 0, none⟩)] w fun e w' => e = .returned (.tuple #[]) ∧ SwAt w' base g q (closeS f) ∧ Only (base ≤ ·) w w' ∧ SwKp w w' := by
  obtain ⟨vo, h⟩ := h
  obtain ⟨il, hil, hlz0, hlz1, hlz2⟩ := info_parts Tryz.infoSd
  have hgb := h.hg
  have hol := hsm.o
  obtain ⟨VA, vc, rfl, hvc⟩ := own_cap h.oo
  obtain ⟨m, hm⟩ : ∃ m, m = f.out.length := ⟨_, rfl⟩
  have hm6 : m ≤ 1000000 := by omega
  have HMl := hide hm
  obtain ⟨k0, k1, k2, k3, k4, k5, k6, k7, k8, k9, k10, k11, k12, k13, k14, k15⟩ := h.blk.sixteen
  rw [← hm] at k15
  have f7 := h.blk.frozen 7
  have HM := hide h
  clear h hsm hol hm hvc
  cases ho : f.open_ with
  | false =>
    have HQ := hide (show closeS f = { f with open_ := false } from by unfold closeS; rw [if_neg (by simp [ho])])
    rw [ho] at k7
    clear ho
    go_enter Tryz.func98, Tryz.ntmps98
    go_wp2_with fail
    go_end0
    refine ⟨rfl, ?_, (Only.refl _ w).setCell (Or.inl hgb) _, HM.out.kset 7 _⟩
    rw [HQ.out]
    exact ⟨_, HM.out.set (f' := { f with open_ := false }) 7 (.bool false) rfl rfl⟩
  | true =>
    have HQ := hide (show closeS f = { f with open_ := false, out := f.out ++ [f.x] } from by unfold closeS; rw [if_pos ho])
    rw [ho] at k7
    clear ho
    go_enter Tryz.func98, Tryz.ntmps98
    go_upto_region 1 with fail
    obtain ⟨V0, hV0⟩ : ∃ V9, V9 = w.drew := ⟨_, rfl⟩
    have HV0 := hide (HM.out.drew)
    have HO0 := hide ((Only.refl (base ≤ ·) w).drew)
    have HK0 := hide ((SwKp.refl w).drew)
    rw [← hV0] at HV0 HO0 HK0
    clear k0 k1 k2 k3 k4 k5 k6 k7 k8 k9 k10 k11 k12 k13 k14 k15 f7
    refine wp_region_pref (l1 := ?_) (l2 := ?_) 13 (fun w' => w'.cell? ⟨g, 8, none⟩ = some (.int .i64 f.x.id) ∧ w'.cell? ⟨g, 9, none⟩ = some (.int .i64 f.x.op) ∧ w'.cell? ⟨g, 10, none⟩ = some (.int .i64 f.x.long) ∧ w'.cell? ⟨g, 11, none⟩ = some (.int .i64 f.x.from_) ∧ w'.cell? ⟨g, 12, none⟩ = some (.int .i64 f.x.taken) ∧ w'.cell? ⟨g, 13, none⟩ = some (.bool f.x.done) ∧ w'.cell? ⟨g, 14, none⟩ = some (.int .i64 f.x.at_) ∧ w'.cell? ⟨g, 15, none⟩ = some (.slice VA m vc)) (by kernel_rfl) ?_ ?_ ?_ ?_ ?_ ?_ (fun hHeld => ?_)
    rotate_left 2
    · simp
    · kernel_rfl
    · kernel_rfl
    · simp only [List.take_succ_cons, List.take_zero]; rfl
    · simp only [List.drop_succ_cons, List.drop_zero]; rfl
    · rw [← hV0]; exact (by obtain ⟨_, _, _, _, _, _, _, _, q8, q9, q10, q11, q12, q13, q14, q15⟩ := (HV0.out.blk).sixteen; exact ⟨q8, q9, q10, q11, q12, q13, q14, by rw [HMl.out]; exact q15⟩)
    rw [← hV0] at hHeld ⊢
    clear hV0
    refine wpAnyH_take (i := 0) (v := ?_) rfl (by kernel_rfl) (by kernel_rfl) (by kernel_rfl) (fun _ _ _ h => h) (Or.inl ⟨by rfl, ?_⟩) (by assumption) ?_
    rotate_left
    · (intro w9 hS9; try simp only [List.getElem_toArray, List.getElem_cons_zero, List.getElem_cons_succ]
       go_simp <;> rfl)
    refine wpAnyH_take (i := 1) (v := ?_) rfl (by kernel_rfl) (by kernel_rfl) (by kernel_rfl) (fun _ _ _ h => h) (Or.inl ⟨by rfl, ?_⟩) (by assumption) ?_
    rotate_left
    · (intro w9 hS9; try simp only [List.getElem_toArray, List.getElem_cons_zero, List.getElem_cons_succ]
       go_simp <;> rfl)
    refine wpAnyH_take (i := 2) (v := ?_) rfl (by kernel_rfl) (by kernel_rfl) (by kernel_rfl) (fun _ _ _ h => h) (Or.inl ⟨by rfl, ?_⟩) (by assumption) ?_
    rotate_left
    · (intro w9 hS9; try simp only [List.getElem_toArray, List.getElem_cons_zero, List.getElem_cons_succ]
       go_simp <;> rfl)
    refine wpAnyH_take (i := 3) (v := ?_) rfl (by kernel_rfl) (by kernel_rfl) (by kernel_rfl) (fun _ _ _ h => h) (Or.inl ⟨by rfl, ?_⟩) (by assumption) ?_
    rotate_left
    · (intro w9 hS9; try simp only [List.getElem_toArray, List.getElem_cons_zero, List.getElem_cons_succ]
       go_simp <;> rfl)
    refine wpAnyH_take (i := 4) (v := ?_) rfl (by kernel_rfl) (by kernel_rfl) (by kernel_rfl) (fun _ _ _ h => h) (Or.inl ⟨by rfl, ?_⟩) (by assumption) ?_
    rotate_left
    · (intro w9 hS9; try simp only [List.getElem_toArray, List.getElem_cons_zero, List.getElem_cons_succ]
       go_simp <;> rfl)
    refine wpAnyH_take (i := 5) (v := ?_) rfl (by kernel_rfl) (by kernel_rfl) (by kernel_rfl) (fun _ _ _ h => h) (Or.inl ⟨by rfl, ?_⟩) (by assumption) ?_
    rotate_left
    · (intro w9 hS9; try simp only [List.getElem_toArray, List.getElem_cons_zero, List.getElem_cons_succ]
       go_simp <;> rfl)
    refine wpAnyH_take (i := 6) (v := ?_) rfl (by kernel_rfl) (by kernel_rfl) (by kernel_rfl) (fun _ _ _ h => h) (Or.inl ⟨by rfl, ?_⟩) (by assumption) ?_
    rotate_left
    · (intro w9 hS9; try simp only [List.getElem_toArray, List.getElem_cons_zero, List.getElem_cons_succ]
       go_simp <;> rfl)
    refine wpAnyH_take (i := 7) (v := ?_) rfl (by kernel_rfl) (by kernel_rfl) (by kernel_rfl) (fun _ _ _ h => h) (Or.inl ⟨by rfl, ?_⟩) (by assumption) ?_
    rotate_left
    · (intro w9 hS9; try simp only [List.getElem_toArray, List.getElem_cons_zero, List.getElem_cons_succ]
       go_simp <;> rfl)
    refine wpAnyH_take (i := 8) (v := ?_) rfl (by kernel_rfl) (by kernel_rfl) (by kernel_rfl) (fun _ _ _ h => h) (Or.inl ⟨by rfl, ?_⟩) (by assumption) ?_
    rotate_left
    · (intro w9 hS9; try simp only [List.getElem_toArray, List.getElem_cons_zero, List.getElem_cons_succ]
       go_simp <;> rfl)
    try simp only [Act.put, List.setIfInBounds_toArray, List.set_cons_zero, List.set_cons_succ, List.getElem_toArray, List.getElem_cons_zero, List.getElem_cons_succ]
    refine wpAnyH_ready (rs := [9]) (by kernel_rfl) (by simp) ?_
    refine AllReadyH.cons rfl (fun K hK => ?_) AllReadyH.nil
    try simp only [List.getElem_toArray, List.getElem_cons_zero, List.getElem_cons_succ]
    try go_simp
    obtain ⟨V2, hV2⟩ : ∃ V9, V9 = V0.alloc (.cells (encSd f.x).toArray 109) := ⟨_, rfl⟩
    have HV2 := hide (HV0.out.alloc (.cells (encSd f.x).toArray 109))
    have HO2 := hide (HO0.out.alloc (.cells (encSd f.x).toArray 109))
    have HK2 := hide (HK0.out.alloc (.cells (encSd f.x).toArray 109))
    have HI2 := hide (Blk.new V0 109 (encSd f.x).toArray)
    simp only [encSd] at hV2
    rw [← hV2]
    rw [show V0.alloc (.cells (encSd f.x).toArray 109) = V2 from hV2.symm] at HV2 HO2 HI2 HK2
    have HOc := hide (show V2.ownsRow base 109 7 (.slice VA m vc) m (flat encSd f.out) by rw [HMl.out]; exact HV2.out.oo)
    clear hV2
    refine hK.out _ _ (by obtain ⟨_, _, _, _, _, _, _, _, q8, q9, q10, q11, q12, q13, q14, q15⟩ := (HV2.out.blk).sixteen; exact ⟨q8, q9, q10, q11, q12, q13, q14, by rw [HMl.out]; exact q15⟩) (fun hHeld => ?_)
    clear hK K
    try simp only [Act.put, List.setIfInBounds_toArray, List.set_cons_zero, List.set_cons_succ, List.getElem_toArray, List.getElem_cons_zero, List.getElem_cons_succ]
    refine wpAnyH_ready (rs := [10]) (by kernel_rfl) (by simp) ?_
    refine AllReadyH.cons rfl (fun K hK => ?_) AllReadyH.nil
    refine step_append_rd V2 (by rfl) (.tmp 10) (.tmp 15) _ (by rfl) base 109 il _ 7 56 Tryz.underlying63 hil hlz0 hlz1 hlz2 rfl (by omega) (.slice VA m vc) m (flat encSd f.out) (by rfl) HOc.out NoBlk (some ⟨V0.heap.size, 0, none⟩) 1 1 (encSd f.x) (by rfl) (rd_blkN HI2.out (fun h => h)) rfl (encSd_one _) (by simp only [maxLen]; omega) (by omega) HV2.out.bs ?_
    intro v9 V3 hown2 hgr _
    obtain ⟨A4, c4, rfl, hc4⟩ := own_cap hown2
    have HG3 := hide (show V2.grownBy V3 (Value.slice VA f.out.length vc).ownBlock by rw [← HMl.out]; exact hgr)
    have HOw3 := hide hown2
    have HB3 := hide (HV2.out.growB (x := f.x) HG3.out)
    clear hgr hown2
    refine hK.out _ _ (by obtain ⟨_, _, _, _, _, _, _, _, q8, q9, q10, q11, q12, q13, q14, q15⟩ := (HB3.out).sixteen; exact ⟨q8, q9, q10, q11, q12, q13, q14, by rw [HMl.out]; exact q15⟩) (fun hHeld => ?_)
    clear hK K
    refine wpAnyH_take (i := 11) (v := ?_) rfl (by kernel_rfl) (by kernel_rfl) (by kernel_rfl) (fun _ _ _ h => h) (Or.inl ⟨by rfl, ?_⟩) (by assumption) ?_
    rotate_left
    · (intro w9 hS9; try simp only [List.getElem_toArray, List.getElem_cons_zero, List.getElem_cons_succ]
       go_simp <;> rfl)
    refine wpAnyH_take (i := 12) (v := ?_) rfl (by kernel_rfl) (by kernel_rfl) (by kernel_rfl) (fun _ _ _ h => h) (Or.inl ⟨by rfl, ?_⟩) (by assumption) ?_
    rotate_left
    · (intro w9 hS9; try simp only [List.getElem_toArray, List.getElem_cons_zero, List.getElem_cons_succ]
       go_simp <;> rfl)
    try simp only [Act.put, List.setIfInBounds_toArray, List.set_cons_zero, List.set_cons_succ, List.getElem_toArray, List.getElem_cons_zero, List.getElem_cons_succ]
    refine wpAnyH_done (by kernel_rfl) ?_ _
    try simp only [Exit.then]
    clear hHeld
    have f15 := HB3.out.frozen 15
    have k15 : V3.cell? ⟨g, 15, none⟩ = some (.slice VA f.out.length vc) := by rw [HB3.out.cell]; rfl
    go_upto_region 2 with fail
    obtain ⟨V4, hV4⟩ : ∃ V4, V4 = V3.setCell ⟨g, 15, none⟩ (.slice A4 (m + 1) c4) := ⟨_, rfl⟩
    have HV4 := hide (show SwMid V4 base g q { f with out := f.out ++ [f.x] } (.slice A4 (m + 1) c4) by rw [hV4]; exact HV2.out.grow HG3.out HOw3.out (by rw [HMl.out]))
    have HO4 := hide (show Only (base ≤ ·) w V4 by rw [hV4]; exact (HO2.out.grown HG3.out (fun k hk => Or.inl (own_ge HV2.out.oo k hk))).setCell (Or.inl hgb) _)
    have HK4 := hide (show SwKp w V4 by rw [hV4]; exact (HK2.out.trans (HV2.out.kgrow HG3.out)).trans (fun b t cs h1 h2 hb => hb.only (only_set V3 g 15 _) (fun hg => Blk.ne_ hb HB3.out h1 hg)))
    rw [← hV4]
    clear hV4 f15 k15
    obtain ⟨_, _, _, _, _, _, _, k7, _⟩ := HV4.out.blk.sixteen
    have f7 := HV4.out.blk.frozen 7
    go_wp2_with fail
    go_end0
    refine ⟨rfl, ?_, HO4.out.setCell (Or.inl hgb) _, HK4.out.trans (HV4.out.kset 7 _)⟩
    rw [HQ.out]
    exact ⟨_, HV4.out.set (f' := { f with open_ := false, out := f.out ++ [f.x] }) 7 (.bool false) rfl rfl⟩
theorem putAt8 (w : World) (g : Nat) (b c d e h i j : Value) : ((((((w.setCell ⟨g, 8, none⟩ b).setCell ⟨g, 9, none⟩ c).setCell ⟨g, 10, none⟩ d).setCell ⟨g, 11, none⟩ e).setCell ⟨g, 12, none⟩ h).setCell ⟨g, 13, none⟩ i).setCell ⟨g, 14, none⟩ j = putFrom w g 8 [b, c, d, e, h, i, j] := rfl
set_option maxRecDepth 100000 in
set_option maxHeartbeats 6400000 in
theorem swcome_c (base g : Nat) (q : SwP) (f : SwM) (op : Int) (L : List OpV) (w : World) (h : SwAt w base g q f) (hr : OpsRd w (base ≤ ·) q.PA L) (hqn : q.n = L.length) (hn : L.length ≤ maxLen) (hsz : ∀ v ∈ L, OpSz v) :
    Calls Tryz.prog 117 #[.pointer (some ⟨g, 0, none⟩), .int .i64 op] w fun e w' => e = .returned (.tuple #[]) ∧ SwAt w' base g q (comeS (progM q.s q.d q.j L) q.id op f) ∧ Only (base ≤ ·) w w' ∧ SwKp w w' := by
  obtain ⟨vo, h⟩ := h
  have hgb := h.hg
  have hn' : L.length ≤ 9223372036854775807 := hn
  obtain ⟨k0, k1, k2, k3, k4, k5, k6, k7, k8, k9, k10, k11, k12, k13, k14, k15⟩ := h.blk.sixteen
  have f7 := h.blk.frozen 7
  have f8 := h.blk.frozen 8
  have f9 := h.blk.frozen 9
  have f10 := h.blk.frozen 10
  have f11 := h.blk.frozen 11
  have f12 := h.blk.frozen 12
  have f13 := h.blk.frozen 13
  have f14 := h.blk.frozen 14
  have HM := hide h
  have HL := hide (show sendB (progM q.s q.d q.j L) op = ((decide (0 ≤ op) && decide (op < L.length)) && decide (((L.map (·.o)).getD op.toNat opM0).kind = 1)) from by unfold sendB progM; simp only [List.length_map])
  have HN := hide (show ∀ now, sendN (progM q.s q.d q.j L) q.id op now = ⟨q.id, op, ((L.map (·.o)).getD op.toNat opM0).text.size, now, 0, false, 0⟩ from fun _ => rfl)
  have HR := hide (fun (i : Nat) (hi : i < L.length) => op_cells hr.1 i hi)
  have HBg := hide (fun (i : Nat) (hi : i < L.length) (b ob : Nat) (hA : q.PA = some ⟨b, ob, none⟩) (hx : base ≤ g) => show ¬ b = g from by
    obtain ⟨b2, o2, hA2, hm2, _⟩ := flat_cells encOp_len hr.1 i _ (opAt_some hi) (by omega)
    rw [hA] at hA2
    injection hA2 with hA2
    injection hA2 with hb2
    intro h
    exact hm2 (by show base ≤ b2; omega))
  have HQn := hide hqn
  have HSz := hide (fun (i : Nat) (hi : i < L.length) => (hsz _ (opAt_mem hi)).1)
  have HG := hide (fun (i : Nat) (hi : i < L.length) => show (L.map (·.o)).getD i opM0 = (opAt L i).o from by simp [List.getD, opAt, hi])
  have HC := hide (show comeS (progM q.s q.d q.j L) q.id op f = if sendB (progM q.s q.d q.j L) op = true then { f with open_ := true, x := sendN (progM q.s q.d q.j L) q.id op (nowS f) } else f from rfl)
  rw [hqn] at k3
  obtain ⟨m, hm⟩ : ∃ m, m = L.length := ⟨_, rfl⟩
  rw [← hm] at hn' HL HR HSz HG k3 HBg HQn
  obtain ⟨BB, hBB⟩ : ∃ BB, BB = sendB (progM q.s q.d q.j L) op := ⟨_, rfl⟩
  rw [← hBB] at HL HC
  obtain ⟨CC, hCC⟩ : ∃ CC, CC = comeS (progM q.s q.d q.j L) q.id op f := ⟨_, rfl⟩
  rw [← hCC] at HC ⊢
  clear h hr hn hm hsz hqn hBB hCC
  by_cases h0 : op < 0
  · have b0 : decide (0 ≤ op) = false := by simp; omega
    have HQb := hide (show BB = false from by rw [HL.out, b0]; rfl)
    have HQ := hide (show CC = f from by rw [HC.out, HQb.out]; rfl)
    clear h0
    go_enter Tryz.func117, Tryz.ntmps117
    go_wp2_with fail
    go_end0
    exact ⟨rfl, by rw [HQ.out]; exact ⟨vo, HM.out⟩, Only.refl _ _, SwKp.refl _⟩
  · have b0 : decide (0 ≤ op) = true := by simp; omega
    by_cases h1 : (m : Int) ≤ op
    · have b1 : decide (op < (m : Int)) = false := by simp; omega
      have HQb := hide (show BB = false from by rw [HL.out, b1]; simp)
      have HQ := hide (show CC = f from by rw [HC.out, HQb.out]; rfl)
      clear h0 h1
      go_enter Tryz.func117, Tryz.ntmps117
      go_wp2_with fail
      go_end0
      exact ⟨rfl, by rw [HQ.out]; exact ⟨vo, HM.out⟩, Only.refl _ _, SwKp.refl _⟩
    · obtain ⟨qq, hq⟩ : ∃ qq : Nat, op = qq := ⟨op.toNat, by omega⟩
      subst hq
      have b1 : decide ((qq : Int) < (m : Int)) = true := by simp; omega
      have hqm : qq < m := by omega
      have j1 : (0 : Int) ≤ (qq : Int) := by omega
      have j2 : (qq : Int) < (m : Int) := by omega
      obtain ⟨b, ob, hPA, hb, y0, y1, y2, y3, y4, y5, y6⟩ := HR.out qq hqm
      rw [hPA] at k3
      have HPA := hide hPA
      have hSq := HSz.out qq hqm
      have HGq := hide (show (L.map (·.o)).getD (qq : Int).toNat opM0 = (opAt L qq).o from HG.out qq hqm)
      rw [HGq.out] at HL HN
      obtain ⟨a, ha⟩ : ∃ a, a = (opAt L qq).o := ⟨_, rfl⟩
      rw [← ha] at y0 y1 HL HN hSq
      clear y2 y3 y4 y5 y6 ha HGq HG HR HSz h0 h1 hPA
      obtain ⟨ok, ot, on_, og, oa, ox, oy⟩ := a
      simp only at y0 y1 HL HN hSq
      by_cases hk : ok = 1
      case neg =>
        have b2 : (ok == 1) = false := by simp [hk]
        have HQb := hide (show BB = false from by rw [HL.out, show decide (ok = 1) = false by simp [hk]]; simp)
        have HQ := hide (show CC = f from by rw [HC.out, HQb.out]; rfl)
        clear hk
        go_enter Tryz.func117, Tryz.ntmps117
        go_wp2_with fail
        go_end0
        exact ⟨rfl, by rw [HQ.out]; exact ⟨vo, HM.out⟩, Only.refl _ _, SwKp.refl _⟩
      case pos =>
        have b2 : (ok == 1) = true := by simp [hk]
        have HQb := hide (show BB = true from by rw [HL.out, show decide (ok = 1) = true by simp [hk], b0, b1]; rfl)
        have HQ := hide (show CC = { f with open_ := true, x := ⟨q.id, qq, ot.size, nowS f, 0, false, 0⟩ } from by rw [HC.out, HQb.out, HN.out]; rfl)
        clear hk
        go_enter Tryz.func117, Tryz.ntmps117
        go_upto_region 1 with fail
        obtain ⟨V0, hV0⟩ : ∃ V9, V9 = w.drew := ⟨_, rfl⟩
        have HV0 := hide (show SwMid V0 base g q f vo by rw [hV0]; exact HM.out.drew)
        have HO0 := hide (show Only (base ≤ ·) w V0 by rw [hV0]; exact (Only.refl _ w).drew)
        have HK0 := hide (show SwKp w V0 by rw [hV0]; exact (SwKp.refl w).drew)
        have HY1 := hide (show V0.cell? ⟨b, ob + qq * 7 + 1, none⟩ = some (.string ot) by rw [hV0]; exact y1)
        have HK3 := hide (show (Value.slice q.PA q.n q.pc) = .slice (some ⟨b, ob, none⟩) m q.pc by rw [HPA.out, HQn.out])
        have hbg : ¬ b = g := HBg.out qq hqm b ob HPA.out hgb
        have hgb2 : ¬ g = b := fun h => hbg h.symm
        clear k0 k1 k2 k3 k4 k5 k6 k7 k8 k9 k10 k11 k12 k13 k14 k15 f7 f8 f9 f10 f11 f12 f13 f14 y0 y1
        refine wp_region_held (S := fun w' => w'.cell? ⟨g, 3, none⟩ = some (.slice (some ⟨b, ob, none⟩) m q.pc) ∧ w'.cell? ⟨g, 4, none⟩ = some (.int .i64 q.id) ∧ w'.cell? ⟨g, 5, none⟩ = some (.int .i64 f.round) ∧ w'.cell? ⟨b, ob + qq * 7 + 1, none⟩ = some (.string ot)) (by kernel_rfl) ?_
        change wpAnyH _ _ _ _ _ _ _ _ w.drew
        have hHeld : (fun w' => w'.cell? ⟨g, 3, none⟩ = some (.slice (some ⟨b, ob, none⟩) m q.pc) ∧ w'.cell? ⟨g, 4, none⟩ = some (.int .i64 q.id) ∧ w'.cell? ⟨g, 5, none⟩ = some (.int .i64 f.round) ∧ w'.cell? ⟨b, ob + qq * 7 + 1, none⟩ = some (.string ot)) w.drew := by rw [← hV0]; exact (by obtain ⟨_, _, _, q3, q4, q5, _⟩ := (HV0.out.blk).sixteen; exact ⟨by rw [← HK3.out]; exact q3, q4, q5, HY1.out⟩)
        rw [← hV0] at hHeld ⊢
        simp only [List.size_toArray, List.length_cons, List.length_nil, Nat.zero_add, Nat.reduceAdd]
        clear hV0
        refine wpAnyH_take (i := 0) (v := ?_) rfl (by kernel_rfl) (by kernel_rfl) (by kernel_rfl) (fun _ _ _ h => h) (Or.inl ⟨by rfl, ?_⟩) (by assumption) ?_
        rotate_left
        · (intro w9 hS9; try simp only [List.getElem_toArray, List.getElem_cons_zero, List.getElem_cons_succ]
           go_simp <;> rfl)
        refine wpAnyH_take (i := 1) (v := ?_) rfl (by kernel_rfl) (by kernel_rfl) (by kernel_rfl) (fun _ _ _ h => h) (Or.inl ⟨by rfl, ?_⟩) (by assumption) ?_
        rotate_left
        · (intro w9 hS9; try simp only [List.getElem_toArray, List.getElem_cons_zero, List.getElem_cons_succ]
           go_simp <;> rfl)
        refine wpAnyH_take (i := 2) (v := ?_) rfl (by kernel_rfl) (by kernel_rfl) (by kernel_rfl) (fun _ _ _ h => h) (Or.inl ⟨by rfl, ?_⟩) (by assumption) ?_
        rotate_left
        · (intro w9 hS9; try simp only [List.getElem_toArray, List.getElem_cons_zero, List.getElem_cons_succ]
           go_simp <;> rfl)
        refine wpAnyH_take (i := 3) (v := ?_) rfl (by kernel_rfl) (by kernel_rfl) (by kernel_rfl) (fun _ _ _ h => h) (Or.inl ⟨by rfl, ?_⟩) (by assumption) ?_
        rotate_left
        · (intro w9 hS9; try simp only [List.getElem_toArray, List.getElem_cons_zero, List.getElem_cons_succ]
           go_simp <;> rfl)
        refine wpAnyH_take (i := 4) (v := ?_) rfl (by kernel_rfl) (by kernel_rfl) (by kernel_rfl) (fun _ _ _ h => h) (Or.inl ⟨by rfl, ?_⟩) (by assumption) ?_
        rotate_left
        · (intro w9 hS9; try simp only [List.getElem_toArray, List.getElem_cons_zero, List.getElem_cons_succ]
           go_simp <;> rfl)
        refine wpAnyH_take (i := 5) (v := ?_) rfl (by kernel_rfl) (by kernel_rfl) (by kernel_rfl) (fun _ _ _ h => h) (Or.inl ⟨by rfl, ?_⟩) (by assumption) ?_
        rotate_left
        · (intro w9 hS9; try simp only [List.getElem_toArray, List.getElem_cons_zero, List.getElem_cons_succ]
           go_simp <;> rfl)
        refine wpAnyH_take (i := 6) (v := ?_) rfl (by kernel_rfl) (by kernel_rfl) (by kernel_rfl) (fun _ _ _ h => h) (Or.inl ⟨by rfl, ?_⟩) (by assumption) ?_
        rotate_left
        · (intro w9 hS9; try simp only [List.getElem_toArray, List.getElem_cons_zero, List.getElem_cons_succ]
           go_simp <;> rfl)
        refine wpAnyH_take (i := 7) (v := ?_) rfl (by kernel_rfl) (by kernel_rfl) (by kernel_rfl) (fun _ _ _ h => h) (Or.inl ⟨by rfl, ?_⟩) (by assumption) ?_
        rotate_left
        · (intro w9 hS9; try simp only [List.getElem_toArray, List.getElem_cons_zero, List.getElem_cons_succ]
           go_simp <;> rfl)
        refine wpAnyH_take (i := 8) (v := ?_) rfl (by kernel_rfl) (by kernel_rfl) (by kernel_rfl) (fun _ _ _ h => h) (Or.inl ⟨by rfl, ?_⟩) (by assumption) ?_
        rotate_left
        · (intro w9 hS9; try simp only [List.getElem_toArray, List.getElem_cons_zero, List.getElem_cons_succ]
           go_simp <;> rfl)
        refine wpAnyH_take (i := 9) (v := ?_) rfl (by kernel_rfl) (by kernel_rfl) (by kernel_rfl) (fun _ _ _ h => h) (Or.inl ⟨by rfl, ?_⟩) (by assumption) ?_
        rotate_left
        · (intro w9 hS9; try simp only [List.getElem_toArray, List.getElem_cons_zero, List.getElem_cons_succ]
           go_simp <;> rfl)
        refine wpAnyH_take (i := 10) (v := ?_) rfl (by kernel_rfl) (by kernel_rfl) (by kernel_rfl) (fun _ _ _ h => h) (Or.inl ⟨by rfl, ?_⟩) (by assumption) ?_
        rotate_left
        · (intro w9 hS9; try simp only [List.getElem_toArray, List.getElem_cons_zero, List.getElem_cons_succ]
           go_simp <;> rfl)
        refine wpAnyH_take (i := 11) (v := ?_) rfl (by kernel_rfl) (by kernel_rfl) (by kernel_rfl) (fun _ _ _ h => h) (Or.inl ⟨by rfl, ?_⟩) (by assumption) ?_
        rotate_left
        · (intro w9 hS9; try simp only [List.getElem_toArray, List.getElem_cons_zero, List.getElem_cons_succ]
           go_simp <;> rfl)
        refine wpAnyH_take (i := 12) (v := ?_) rfl (by kernel_rfl) (by kernel_rfl) (by kernel_rfl) (fun _ _ _ h => h) (Or.inl ⟨by rfl, ?_⟩) (by assumption) ?_
        rotate_left
        · (intro w9 hS9; try simp only [List.getElem_toArray, List.getElem_cons_zero, List.getElem_cons_succ]
           go_simp <;> rfl)
        refine wpAnyH_take (i := 13) (v := ?_) rfl (by kernel_rfl) (by kernel_rfl) (by kernel_rfl) (fun _ _ _ h => h) (Or.inl ⟨by rfl, ?_⟩) (by assumption) ?_
        rotate_left
        · (intro w9 hS9; try simp only [List.getElem_toArray, List.getElem_cons_zero, List.getElem_cons_succ]
           go_simp <;> rfl)
        refine wpAnyH_take (i := 14) (v := ?_) rfl (by kernel_rfl) (by kernel_rfl) (by kernel_rfl) (fun _ _ _ h => h) (Or.inl ⟨by rfl, ?_⟩) (by assumption) ?_
        rotate_left
        · (intro w9 hS9; try simp only [List.getElem_toArray, List.getElem_cons_zero, List.getElem_cons_succ]
           go_simp <;> rfl)
        refine wpAnyH_take (i := 15) (v := ?_) rfl (by kernel_rfl) (by kernel_rfl) (by kernel_rfl) (fun _ _ _ h => h) (Or.inl ⟨by rfl, ?_⟩) (by assumption) ?_
        rotate_left
        · (intro w9 hS9; try simp only [List.getElem_toArray, List.getElem_cons_zero, List.getElem_cons_succ]
           go_simp <;> rfl)
        refine wpAnyH_take (i := 16) (v := ?_) rfl (by kernel_rfl) (by kernel_rfl) (by kernel_rfl) (fun _ _ _ h => h) (Or.inl ⟨by rfl, ?_⟩) (by assumption) ?_
        rotate_left
        · (intro w9 hS9; try simp only [List.getElem_toArray, List.getElem_cons_zero, List.getElem_cons_succ]
           go_simp <;> rfl)
        refine wpAnyH_take (i := 17) (v := ?_) rfl (by kernel_rfl) (by kernel_rfl) (by kernel_rfl) (fun _ _ _ h => h) (Or.inl ⟨by rfl, ?_⟩) (by assumption) ?_
        rotate_left
        · (intro w9 hS9; try simp only [List.getElem_toArray, List.getElem_cons_zero, List.getElem_cons_succ]
           go_simp <;> rfl)
        refine wpAnyH_take (i := 18) (v := ?_) rfl (by kernel_rfl) (by kernel_rfl) (by kernel_rfl) (fun _ _ _ h => h) (Or.inl ⟨by rfl, ?_⟩) (by assumption) ?_
        rotate_left
        · (intro w9 hS9; try simp only [List.getElem_toArray, List.getElem_cons_zero, List.getElem_cons_succ]
           go_simp <;> rfl)
        refine wpAnyH_take (i := 19) (v := ?_) rfl (by kernel_rfl) (by kernel_rfl) (by kernel_rfl) (fun _ _ _ h => h) (Or.inl ⟨by rfl, ?_⟩) (by assumption) ?_
        rotate_left
        · (intro w9 hS9; try simp only [List.getElem_toArray, List.getElem_cons_zero, List.getElem_cons_succ]
           go_simp <;> rfl)
        refine wpAnyH_take (i := 20) (v := ?_) rfl (by kernel_rfl) (by kernel_rfl) (by kernel_rfl) (fun _ _ _ h => h) (Or.inl ⟨by rfl, ?_⟩) (by assumption) ?_
        rotate_left
        · (intro w9 hS9; try simp only [List.getElem_toArray, List.getElem_cons_zero, List.getElem_cons_succ]
           go_simp <;> rfl)
        refine wpAnyH_take (i := 21) (v := ?_) rfl (by kernel_rfl) (by kernel_rfl) (by kernel_rfl) (fun _ _ _ h => h) (Or.inl ⟨by rfl, ?_⟩) (by assumption) ?_
        rotate_left
        · (intro w9 hS9; try simp only [List.getElem_toArray, List.getElem_cons_zero, List.getElem_cons_succ]
           go_simp <;> rfl)
        refine wpAnyH_take (i := 22) (v := ?_) rfl (by kernel_rfl) (by kernel_rfl) (by kernel_rfl) (fun _ _ _ h => h) (Or.inl ⟨by rfl, ?_⟩) (by assumption) ?_
        rotate_left
        · (intro w9 hS9; try simp only [List.getElem_toArray, List.getElem_cons_zero, List.getElem_cons_succ]
           go_simp <;> rfl)
        refine wpAnyH_take (i := 23) (v := ?_) rfl (by kernel_rfl) (by kernel_rfl) (by kernel_rfl) (fun _ _ _ h => h) (Or.inl ⟨by rfl, ?_⟩) (by assumption) ?_
        rotate_left
        · (intro w9 hS9; try simp only [List.getElem_toArray, List.getElem_cons_zero, List.getElem_cons_succ]
           go_simp <;> rfl)
        refine wpAnyH_take (i := 24) (v := ?_) rfl (by kernel_rfl) (by kernel_rfl) (by kernel_rfl) (fun _ _ _ h => h) (Or.inl ⟨by rfl, ?_⟩) (by assumption) ?_
        rotate_left
        · (intro w9 hS9; try simp only [List.getElem_toArray, List.getElem_cons_zero, List.getElem_cons_succ]
           go_simp <;> rfl)
        try simp only [Act.put, List.setIfInBounds_toArray, List.set_cons_zero, List.set_cons_succ, List.getElem_toArray, List.getElem_cons_zero, List.getElem_cons_succ]
        have f7 := HV0.out.blk.frozen 7
        obtain ⟨_, _, _, _, _, _, _, k7, _⟩ := HV0.out.blk.sixteen
        refine wpAnyH_ready (rs := [25]) (by kernel_rfl) (by simp) ?_
        refine AllReadyH.cons rfl (fun K hK => ?_) AllReadyH.nil
        try simp only [List.getElem_toArray, List.getElem_cons_zero, List.getElem_cons_succ]
        try go_simp
        obtain ⟨V1, hV1⟩ : ∃ V9, V9 = V0.setCell ⟨g, 7, none⟩ (.bool true) := ⟨_, rfl⟩
        have HV1 := hide (show SwMid V1 base g q { f with open_ := true } vo by rw [hV1]; exact HV0.out.set (f' := { f with open_ := true }) 7 (.bool true) rfl rfl)
        have HO1 := hide (show Only (base ≤ ·) w V1 by rw [hV1]; exact HO0.out.setCell (Or.inl hgb) _)
        have HK1 := hide (show SwKp w V1 by rw [hV1]; exact HK0.out.trans (HV0.out.kset 7 _))
        have HY2 := hide (show V1.cell? ⟨b, ob + qq * 7 + 1, none⟩ = some (.string ot) by rw [hV1]; exact okeep (only_set V0 g 7 _) hbg HY1.out)
        rw [← hV1]
        clear hV1 f7 k7
        refine hK.out _ _ (by obtain ⟨_, _, _, q3, q4, q5, _⟩ := (HV1.out.blk).sixteen; exact ⟨by rw [← HK3.out]; exact q3, q4, q5, HY2.out⟩) (fun hHeld => ?_)
        clear hK K
        try simp only [Act.put, List.setIfInBounds_toArray, List.set_cons_zero, List.set_cons_succ, List.getElem_toArray, List.getElem_cons_zero, List.getElem_cons_succ]
        obtain ⟨_, _, _, _, _, _, _, _, k8, k9, k10, k11, k12, k13, k14, _⟩ := HV1.out.blk.sixteen
        have f8 := HV1.out.blk.frozen 8
        have f9 := HV1.out.blk.frozen 9
        have f10 := HV1.out.blk.frozen 10
        have f11 := HV1.out.blk.frozen 11
        have f12 := HV1.out.blk.frozen 12
        have f13 := HV1.out.blk.frozen 13
        have f14 := HV1.out.blk.frozen 14
        refine wpAnyH_take (i := 26) (v := ?_) rfl (by kernel_rfl) (by kernel_rfl) (by kernel_rfl) (fun _ _ _ h => h) (Or.inl ⟨by rfl, ?_⟩) (by assumption) ?_
        rotate_left
        · (intro w9 hS9; try simp only [List.getElem_toArray, List.getElem_cons_zero, List.getElem_cons_succ]
           go_simp <;> rfl)
        refine wpAnyH_take (i := 27) (v := ?_) rfl (by kernel_rfl) (by kernel_rfl) (by kernel_rfl) (fun _ _ _ h => h) (Or.inl ⟨by rfl, ?_⟩) (by assumption) ?_
        rotate_left
        · (intro w9 hS9; try simp only [List.getElem_toArray, List.getElem_cons_zero, List.getElem_cons_succ]
           go_simp <;> rfl)
        try simp only [Act.put, List.setIfInBounds_toArray, List.set_cons_zero, List.set_cons_succ, List.getElem_toArray, List.getElem_cons_zero, List.getElem_cons_succ]
        refine wpAnyH_ready (rs := [28]) (by kernel_rfl) (by simp) ?_
        refine AllReadyH.cons rfl (fun K hK => ?_) AllReadyH.nil
        try simp only [List.getElem_toArray, List.getElem_cons_zero, List.getElem_cons_succ]
        try go_simp
        rw [putAt8]
        obtain ⟨V2, hV2⟩ : ∃ V9, V9 = putFrom V1 g 8 [.int .i64 q.id, .int .i64 qq, .int .i64 ot.size, .int .i64 (max f.round 0), .int .i64 0, .bool false, .int .i64 0] := ⟨_, rfl⟩
        have HV2 := hide (show SwMid V2 base g q { f with open_ := true, x := ⟨q.id, qq, ot.size, nowS f, 0, false, 0⟩ } vo by rw [hV2]; exact HV1.out.putF (f' := { f with open_ := true, x := ⟨q.id, qq, ot.size, nowS f, 0, false, 0⟩ }) 8 _ rfl rfl)
        have HO2 := hide (show Only (base ≤ ·) w V2 by rw [hV2]; exact HO1.out.trans ((only_put _ 8 _ g).mono (fun k _ hk => by have : k = g := hk; show base ≤ k; omega)))
        have HK2 := hide (show SwKp w V2 by rw [hV2]; exact HK1.out.trans (HV1.out.kput 8 _))
        have HY3 := hide (show V2.cell? ⟨b, ob + qq * 7 + 1, none⟩ = some (.string ot) by rw [hV2]; exact okeep (only_put _ 8 V1 g) hbg HY2.out)
        rw [← hV2]
        clear hV2 k8 k9 k10 k11 k12 k13 k14 f8 f9 f10 f11 f12 f13 f14
        refine hK.out _ _ (by obtain ⟨_, _, _, q3, q4, q5, _⟩ := (HV2.out.blk).sixteen; exact ⟨by rw [← HK3.out]; exact q3, q4, q5, HY3.out⟩) (fun hHeld => ?_)
        clear hK K
        try simp only [Act.put, List.setIfInBounds_toArray, List.set_cons_zero, List.set_cons_succ, List.getElem_toArray, List.getElem_cons_zero, List.getElem_cons_succ]
        refine wpAnyH_done (by kernel_rfl) ?_ _
        try simp only [Exit.then]
        clear hHeld
        go_wp2_with fail
        go_end0
        exact ⟨rfl, by rw [HQ.out]; exact ⟨vo, HV2.out⟩, HO2.out, HK2.out⟩
end Go.Proofs.YtdmdohjdmnmabaaGreat
