/- The walk through events that notes one's matches: an event is seen. Conditions: those of each theorem. -/
import Derived.Test.YtdmdohjdmnmabaaGreatQp20
namespace Go.Proofs.YtdmdohjdmnmabaaGreat
open Go.RowKit
set_option linter.unusedVariables false
set_option linter.unusedSimpArgs false

theorem lastSum_le {f : PwM} {k : Nat} (h : PwSm f k) : 0 ≤ lastSum f.came ∧ lastSum f.came ≤ 100 * (k : Int) := by
  unfold lastSum
  split
  · rename_i hp
    have : f.came.length - 1 < f.came.length := by omega
    have e : pcAt f.came (f.came.length - 1) = f.came[f.came.length - 1] := by simp [pcAt, List.getD, this]
    rw [e]
    exact h.cs _ (List.getElem_mem this)
  · omega
theorem sm_see {p : ProgM} {id : Int} {f : PwM} {x : Ev} {k : Nat} (h : PwSm f k) (hx : x.s.size ≤ 100) : PwSm (seeM p id f x) (k + 1) := by
  have hl := lastSum_le h
  obtain ⟨r0, r1, s0, s1, g0, g1, hc, ho, hcs⟩ := h
  have hcs' : ∀ y ∈ f.came, 0 ≤ y.1 ∧ y.1 ≤ 100 * ((k + 1 : Nat) : Int) := fun y hy => by have := hcs y hy; omega
  unfold seeM
  split
  · exact ⟨by simp only; omega, by simp only; omega, s0, by simp only; omega, g0, g1, by simp only; omega, by simp only; omega, hcs'⟩
  · split
    · exact ⟨r0, by omega, s0, by omega, g0, g1, by omega, by omega, hcs'⟩
    · split
      · exact ⟨r0, by simp only; omega, s0, by simp only; omega, g0, g1, by simp only; omega, by simp only; omega, hcs'⟩
      · split
        · refine ⟨r0, by simp only; omega, s0, by simp only; omega, g0, g1, by simp; omega, by simp only; omega, fun y hy => ?_⟩
          rcases List.mem_append.1 hy with hy | hy
          · exact hcs' y hy
          · simp only [List.mem_singleton] at hy
            subst hy
            simp only
            omega
        · split
          · unfold stepM matchM
            split
            · exact ⟨r0, by simp only; omega, by simp only; omega, by simp only; omega, by simp only [goneM]; omega, by simp only [goneM]; omega, by simp only; omega, by simp; omega, hcs'⟩
            · exact ⟨r0, by simp only; omega, by simp only; omega, by simp only; omega, g0, g1, by simp only; omega, by simp only; omega, hcs'⟩
          · exact ⟨r0, by omega, s0, by omega, g0, g1, by omega, by omega, hcs'⟩
/-- a piece more, its row grown -/
theorem PwMid.growB {w w' : World} {base g : Nat} {q : PwP} {f : PwM} {va vo : Value} (h : PwMid w base g q f va vo) (hg : w.grownBy w' va.ownBlock) : Blk w' g 148 (pwV q f va vo) := Blk.grown h.blk h.oc (by decide) hg
set_option maxRecDepth 100000 in
set_option maxHeartbeats 12000000 in
theorem pwsee_c (base g : Nat) (q : PwP) (f : PwM) (kk : Nat) (L : List OpV) (k ei en et : Int) (es : ByteArray) (ee st sa sw sr sn ss : Int) (w : World) (h : PwAt w base g q f) (hsm : PwSm f kk) (hkk : kk ≤ 99999) (hes : es.size ≤ 100) (hr : OpsRd w (base ≤ ·) q.PA L) (hqn : q.n = L.length) (hn : L.length ≤ maxLen) (hs : q.s.size ≤ 9223372036854775807) (hsz : ∀ v ∈ L, OpSz v) :
    Calls Tryz.prog 85 #[.pointer (some ⟨g, 0, none⟩), .agg #[.int .i64 k, .int .i64 ei, .int .i64 en, .int .i64 et, .string es, .int .i64 ee, .int .i64 st, .int .i64 sa, .int .i64 sw, .int .i64 sr, .int .i64 sn, .int .i64 ss]] w fun e w' => e = .returned (.tuple #[]) ∧ PwAt w' base g q (seeM (progM q.s q.d q.j L) q.id f ⟨k, ei, en, et, es, ee, ⟨st, sa, sw, sr, sn, ss⟩⟩) ∧ Only (base ≤ ·) w w' := by
  obtain ⟨va, vo, h⟩ := h
  obtain ⟨ip, hip, hpz0, hpz1, hpz2⟩ := info_parts Tryz.infoPc
  have hgl := h.lt
  have hgb := h.hg
  have hbw : base ≤ w.heap.size := h.bs
  have hne1 : ¬ g = w.heap.size := by omega
  have hne2 : ¬ w.heap.size = g := by omega
  have hls := lastSum_le hsm
  have hsr0 := hsm.r0
  have hsr1 := hsm.r1
  have hsc := hsm.c
  have hsm1 : kk ≤ 100000 := by omega
  have HStep := hide (fun (w' : World) (hm : PwMid w' base g q f va vo) (k : Only (base ≤ ·) w w') => pwstep_c base g q f kk L st sa sw sr sn ss w' ⟨va, vo, hm⟩ hsm hsm1 (hr.only k (fun _ h => h)) hqn hn hs hsz)
  obtain ⟨pm, hpm⟩ : ∃ pm, pm = progM q.s q.d q.j L := ⟨_, rfl⟩
  rw [← hpm] at HStep ⊢
  have HSee := hide (show seeM pm q.id f ⟨k, ei, en, et, es, ee, ⟨st, sa, sw, sr, sn, ss⟩⟩ = if k = 1 then { f with round := f.round + 1 } else if ei ≠ q.id then f
    else if k = 2 ∧ f.begun = false then { f with begun := true, from_ := nowM f }
    else if k = 4 ∧ f.begun = true then { f with came := f.came ++ [((es.size : Int) + lastSum f.came, nowM f)] }
    else if k = 8 ∧ f.begun = true then stepM pm q.id f ⟨st, sa, sw, sr, sn, ss⟩ else f from rfl)
  obtain ⟨T, hT⟩ : ∃ T, T = seeM pm q.id f ⟨k, ei, en, et, es, ee, ⟨st, sa, sw, sr, sn, ss⟩⟩ := ⟨_, rfl⟩
  rw [← hT] at HSee ⊢
  obtain ⟨W, hW⟩ : ∃ W, W = w.alloc (.cells #[.int .i64 k, .int .i64 ei, .int .i64 en, .int .i64 et, .string es, .int .i64 ee, .int .i64 st, .int .i64 sa, .int .i64 sw, .int .i64 sr, .int .i64 sn, .int .i64 ss] 82) := ⟨_, rfl⟩
  have HM := hide (show PwMid W base g q f va vo by rw [hW]; exact h.alloc _)
  have HO := hide (show Only (base ≤ ·) w W by rw [hW]; exact (Only.refl _ w).alloc _)
  have HX := hide (show Blk W w.heap.size 82 #[.int .i64 k, .int .i64 ei, .int .i64 en, .int .i64 et, .string es, .int .i64 ee, .int .i64 st, .int .i64 sa, .int .i64 sw, .int .i64 sr, .int .i64 sn, .int .i64 ss] by rw [hW]; exact Blk.new w 82 _)
  have HW := hide hW
  have HSM := hide hsm
  obtain ⟨k0, k1, k2, k3, k4, k5, k6, k7, k8, k9, k10, k11⟩ := HM.out.blk.twelve
  obtain ⟨x0, x1, x2, x3, x4, x5, x6, x7, x8, x9, x10, x11⟩ := HX.out.twelve
  have f5 := HM.out.blk.frozen 5
  have f6 := HM.out.blk.frozen 6
  have f7 := HM.out.blk.frozen 7
  have f10 := HM.out.blk.frozen 10
  clear h hr hqn hn hs hsz hW hsm hpm hT
  by_cases c1 : k = 1
  · have b1 : (k == 1) = true := by simp [c1]
    have HQ := hide (HSee.out.trans (by rw [if_pos c1]))
    have w1 : IntKind.i64.wrap (f.round + 1) = f.round + 1 := IntWalk.i64_in _ (by omega)
    clear c1 HSee HStep
    go_enter Tryz.func85, Tryz.ntmps85
    go_upto_region 1 with fail
    change Code.wp _ _ _ _ (w.alloc (.cells #[.int .i64 k, .int .i64 ei, .int .i64 en, .int .i64 et, .string es, .int .i64 ee, .int .i64 st, .int .i64 sa, .int .i64 sw, .int .i64 sr, .int .i64 sn, .int .i64 ss] 82))
    rw [← HW.out]
    go_wp2_with fail
    go_end0
    refine ⟨rfl, ?_, HO.out.setCell (Or.inl hgb) _⟩
    rw [HQ.out]
    exact ⟨va, vo, HM.out.set (f' := { f with round := f.round + 1 }) 5 (.int .i64 (f.round + 1)) rfl rfl rfl⟩
  have b1 : (k == 1) = false := by simp [c1]
  by_cases c0 : ei ≠ q.id
  · have b0 : (ei != q.id) = true := by simpa using c0
    have HQ := hide (HSee.out.trans (by rw [if_neg c1, if_pos c0]))
    clear c1 c0 HSee HStep
    go_enter Tryz.func85, Tryz.ntmps85
    go_upto_region 1 with fail
    change Code.wp _ _ _ _ (w.alloc (.cells #[.int .i64 k, .int .i64 ei, .int .i64 en, .int .i64 et, .string es, .int .i64 ee, .int .i64 st, .int .i64 sa, .int .i64 sw, .int .i64 sr, .int .i64 sn, .int .i64 ss] 82))
    rw [← HW.out]
    go_wp2_with fail
    go_region
    go_wp2_with fail
    go_end0
    refine ⟨rfl, ?_, HO.out.drew⟩
    rw [HQ.out]
    exact ⟨va, vo, HM.out.drew⟩
  have b0 : (ei != q.id) = false := by simpa using c0
  by_cases c2 : k = 2
  · have b2 : (k == 2) = true := by simp [c2]
    have b4 : (k == 4) = false := by simp [c2]
    have b8 : (k == 8) = false := by simp [c2]
    cases hbg : f.begun with
    | true =>
      rw [hbg] at k6
      have HQ := hide (HSee.out.trans (by rw [if_neg c1, if_neg c0, if_neg (by rw [hbg]; simp), if_neg (by omega), if_neg (by omega)]))
      clear c1 c0 c2 HSee HStep
      go_enter Tryz.func85, Tryz.ntmps85
      go_upto_region 1 with fail
      change Code.wp _ _ _ _ (w.alloc (.cells #[.int .i64 k, .int .i64 ei, .int .i64 en, .int .i64 et, .string es, .int .i64 ee, .int .i64 st, .int .i64 sa, .int .i64 sw, .int .i64 sr, .int .i64 sn, .int .i64 ss] 82))
      rw [← HW.out]
      go_wp2_with fail
      go_region
      go_wp2_with fail
      go_end0
      refine ⟨rfl, ?_, HO.out.drew⟩
      rw [HQ.out]
      exact ⟨va, vo, HM.out.drew⟩
    | false =>
      rw [hbg] at k6
      have HQ := hide (HSee.out.trans (by rw [if_neg c1, if_neg c0, if_pos ⟨c2, hbg⟩]))
      clear c1 c0 c2 HSee HStep
      go_enter Tryz.func85, Tryz.ntmps85
      go_upto_region 1 with fail
      change Code.wp _ _ _ _ (w.alloc (.cells #[.int .i64 k, .int .i64 ei, .int .i64 en, .int .i64 et, .string es, .int .i64 ee, .int .i64 st, .int .i64 sa, .int .i64 sw, .int .i64 sr, .int .i64 sn, .int .i64 ss] 82))
      rw [← HW.out]
      go_wp2_with fail
      go_region
      go_wp2_with fail
      refine (now_c g f.round W.drew k5).mono ?_
      rintro e w4 ⟨rfl, h9⟩
      obtain rfl := h9.symm
      go_wp2_with fail
      go_end0
      refine ⟨rfl, ?_, (HO.out.drew.setCell (Or.inl hgb) _).setCell (Or.inl hgb) _⟩
      rw [HQ.out]
      exact ⟨va, vo, (HM.out.drew.set (f' := { f with begun := true }) 6 (.bool true) rfl rfl rfl).set (f' := { f with begun := true, from_ := nowM f }) 7 (.int .i64 (nowM f)) rfl rfl rfl⟩
  have b2 : (k == 2) = false := by simp [c2]
  by_cases c4 : k = 4
  · have b4 : (k == 4) = true := by simp [c4]
    have b8 : (k == 8) = false := by simp [c4]
    cases hbg : f.begun with
    | false =>
      rw [hbg] at k6
      have HQ := hide (HSee.out.trans (by rw [if_neg c1, if_neg c0, if_neg (by omega), if_neg (by rw [hbg]; simp), if_neg (by omega)]))
      clear c1 c0 c4 HSee HStep
      go_enter Tryz.func85, Tryz.ntmps85
      go_upto_region 1 with fail
      change Code.wp _ _ _ _ (w.alloc (.cells #[.int .i64 k, .int .i64 ei, .int .i64 en, .int .i64 et, .string es, .int .i64 ee, .int .i64 st, .int .i64 sa, .int .i64 sw, .int .i64 sr, .int .i64 sn, .int .i64 ss] 82))
      rw [← HW.out]
      go_wp2_with fail
      go_region
      go_wp2_with fail
      go_end0
      refine ⟨rfl, ?_, HO.out.drew⟩
      rw [HQ.out]
      exact ⟨va, vo, HM.out.drew⟩
    | true =>
      rw [hbg] at k6
      have HQ := hide (HSee.out.trans (by rw [if_neg c1, if_neg c0, if_neg (by omega), if_pos ⟨c4, hbg⟩]))
      have hes' : es.size ≤ 9223372036854775807 := by omega
      have w2 : IntKind.i64.wrap ((es.size : Int) + lastSum f.came) = (es.size : Int) + lastSum f.came := IntWalk.i64_in _ (by omega)
      obtain ⟨A10, c10, hva, hcap⟩ := own_cap HM.out.oc
      subst hva
      obtain ⟨m, hm⟩ : ∃ m, m = f.came.length := ⟨_, rfl⟩
      have hlast : 0 < m → ∃ b o, A10 = some ⟨b, o, none⟩ ∧ b < W.heap.size ∧ W.cell? ⟨b, o + (m - 1) * 2, none⟩ = some (.int .i64 (lastSum f.came)) := by
        intro hp
        obtain ⟨b, o, hA, hb, _, hc, _⟩ := pc_cells (M := NoBlk) (Rd.of_own HM.out.oc (fun _ h => h.elim)) (m - 1) (by omega)
        refine ⟨b, o, hA, hb, ?_⟩
        rw [hc]
        unfold lastSum
        rw [if_pos (by omega), ← hm]
      have hl0 : ¬ 0 < m → lastSum f.came = 0 := by
        intro hp
        unfold lastSum
        rw [if_neg (by omega)]
      rw [← hm] at k10 hsc
      have HLast := hide hlast
      have HL0 := hide hl0
      have HMl := hide hm
      clear c1 c0 c4 HSee HStep hm hlast hl0
      go_enter Tryz.func85, Tryz.ntmps85
      go_upto_region 1 with fail
      change Code.wp _ _ _ _ (w.alloc (.cells #[.int .i64 k, .int .i64 ei, .int .i64 en, .int .i64 et, .string es, .int .i64 ee, .int .i64 st, .int .i64 sa, .int .i64 sw, .int .i64 sr, .int .i64 sn, .int .i64 ss] 82))
      rw [← HW.out]
      go_wp2_with fail
      go_region
      go_upto_if 63 with fail
      go_cut [4] from 64 to 74 (fun t wx => t = .int .i64 ((es.size : Int) + lastSum f.came) ∧ W.drew = wx)
      case first =>
        by_cases hp : 0 < m
        · obtain ⟨b, o, rfl, hb, hc⟩ := HLast.out hp
          have d1 : decide ((0 : Int) < (m : Int)) = true := by simp; omega
          have d2 : decide (0 < m) = true := by simp; omega
          have w3 : IntKind.i64.wrap ((m : Int) - 1) = (m : Int) - 1 := IntWalk.i64_in _ (by omega)
          have w4 : ((m : Int) - 1).toNat = m - 1 := by omega
          have j1 : (0 : Int) ≤ (m : Int) - 1 := by omega
          have j2 : (m : Int) - 1 < (m : Int) := by omega
          go_wp2_with fail
          go_meet
          exact ⟨rfl, rfl⟩
        · have d1 : decide ((0 : Int) < (m : Int)) = false := by simp; omega
          have d2 : decide (0 < m) = false := by simp; omega
          have e0 := HL0.out hp
          go_wp2_with fail
          go_meet
          exact ⟨by rw [e0]; simp, rfl⟩
      case rest =>
        obtain ⟨rfl, hwx⟩ := hcut
        subst hwx
        obtain ⟨S9, hS9⟩ : ∃ S9, S9 = (es.size : Int) + lastSum f.came := ⟨_, rfl⟩
        try rw [← hS9]
        rw [← hS9] at HQ
        clear hS9 w2
        go_upto_region 11 with fail
        obtain ⟨V0, hV0⟩ : ∃ V9, V9 = W.drew.drew := ⟨_, rfl⟩
        have HV0 := hide (HM.out.drew.drew)
        have HO0 := hide (HO.out.drew.drew)
        rw [← hV0] at HV0 HO0
        clear k0 k1 k2 k3 k4 k5 k6 k7 k8 k9 k11 x0 x1 x2 x3 x4 x5 x6 x7 x8 x9 x10 x11 f5 f6 f7 f10 HX HLast HL0 HSM
        clear k10
        refine wp_region_pref (l1 := ?_) (l2 := ?_) 13 (fun w' => w'.cell? ⟨g, 10, none⟩ = some (.slice A10 m c10)) (by kernel_rfl) ?_ ?_ ?_ ?_ ?_ ?_ (fun hHeld => ?_)
        rotate_left 2
        · simp
        · kernel_rfl
        · kernel_rfl
        · simp only [List.take_succ_cons, List.take_zero]; rfl
        · simp only [List.drop_succ_cons, List.drop_zero]; rfl
        · rw [← hV0, HMl.out, HV0.out.blk.cell]; rfl
        rw [← hV0] at hHeld ⊢
        clear hV0
        refine wpAnyH_take (i := 0) (v := ?_) rfl (by kernel_rfl) (by kernel_rfl) (by kernel_rfl) (fun _ _ _ h => h) (Or.inl ⟨by rfl, ?_⟩) (by assumption) ?_
        rotate_left
        · (intro w9 hS9; try simp only [List.getElem_toArray, List.getElem_cons_zero, List.getElem_cons_succ]
           go_simp <;> rfl)
        try simp only [Act.put, List.setIfInBounds_toArray, List.set_cons_zero, List.set_cons_succ, List.getElem_toArray, List.getElem_cons_zero, List.getElem_cons_succ]
        refine wpAnyH_take (i := 1) (v := ?_) rfl (by kernel_rfl) (by kernel_rfl) (by kernel_rfl) (fun _ _ _ h => h) (Or.inl ⟨by rfl, ?_⟩) (by assumption) ?_
        rotate_left
        · (intro w9 hS9; try simp only [List.getElem_toArray, List.getElem_cons_zero, List.getElem_cons_succ]
           go_simp <;> rfl)
        try simp only [Act.put, List.setIfInBounds_toArray, List.set_cons_zero, List.set_cons_succ, List.getElem_toArray, List.getElem_cons_zero, List.getElem_cons_succ]
        refine wpAnyH_take (i := 2) (v := ?_) rfl (by kernel_rfl) (by kernel_rfl) (by kernel_rfl) (fun _ _ _ h => h) (Or.inl ⟨by rfl, ?_⟩) (by assumption) ?_
        rotate_left
        · (intro w9 hS9; try simp only [List.getElem_toArray, List.getElem_cons_zero, List.getElem_cons_succ]
           go_simp <;> rfl)
        try simp only [Act.put, List.setIfInBounds_toArray, List.set_cons_zero, List.set_cons_succ, List.getElem_toArray, List.getElem_cons_zero, List.getElem_cons_succ]
        refine wpAnyH_take (i := 3) (v := ?_) rfl (by kernel_rfl) (by kernel_rfl) (by kernel_rfl) (fun _ _ _ h => h) (Or.inl ⟨by rfl, ?_⟩) (by assumption) ?_
        rotate_left
        · (intro w9 hS9; try simp only [List.getElem_toArray, List.getElem_cons_zero, List.getElem_cons_succ]
           go_simp <;> rfl)
        try simp only [Act.put, List.setIfInBounds_toArray, List.set_cons_zero, List.set_cons_succ, List.getElem_toArray, List.getElem_cons_zero, List.getElem_cons_succ]
        refine wpAnyH_take (i := 4) (v := ?_) rfl (by kernel_rfl) (by kernel_rfl) (by kernel_rfl) (fun _ _ _ h => h) (Or.inl ⟨by rfl, ?_⟩) (by assumption) ?_
        rotate_left
        · (intro w9 hS9; try simp only [List.getElem_toArray, List.getElem_cons_zero, List.getElem_cons_succ]
           go_simp <;> rfl)
        try simp only [Act.put, List.setIfInBounds_toArray, List.set_cons_zero, List.set_cons_succ, List.getElem_toArray, List.getElem_cons_zero, List.getElem_cons_succ]
        refine wpAnyH_take (i := 5) (v := ?_) rfl (by kernel_rfl) (by kernel_rfl) (by kernel_rfl) (fun _ _ _ h => h) (Or.inl ⟨by rfl, ?_⟩) (by assumption) ?_
        rotate_left
        · (intro w9 hS9; try simp only [List.getElem_toArray, List.getElem_cons_zero, List.getElem_cons_succ]
           go_simp <;> rfl)
        try simp only [Act.put, List.setIfInBounds_toArray, List.set_cons_zero, List.set_cons_succ, List.getElem_toArray, List.getElem_cons_zero, List.getElem_cons_succ]
        refine wpAnyH_take (i := 6) (v := ?_) rfl (by kernel_rfl) (by kernel_rfl) (by kernel_rfl) (fun _ _ _ h => h) (Or.inl ⟨by rfl, ?_⟩) (by assumption) ?_
        rotate_left
        · (intro w9 hS9; try simp only [List.getElem_toArray, List.getElem_cons_zero, List.getElem_cons_succ]
           go_simp <;> rfl)
        try simp only [Act.put, List.setIfInBounds_toArray, List.set_cons_zero, List.set_cons_succ, List.getElem_toArray, List.getElem_cons_zero, List.getElem_cons_succ]
        refine wpAnyH_ready (rs := [7]) (by kernel_rfl) (by simp) ?_
        refine AllReadyH.cons rfl (fun K hK => ?_) AllReadyH.nil
        try simp only [List.getElem_toArray, List.getElem_cons_zero, List.getElem_cons_succ]
        try go_simp
        go_at_call 109
        refine (now_c g f.round V0 (by rw [HV0.out.blk.cell]; rfl)).mono ?_
        rintro e V9 ⟨rfl, h9⟩
        obtain rfl := h9.symm
        refine hK.out _ _ (by rw [HMl.out, HV0.out.blk.cell]; rfl) (fun hHeld => ?_)
        clear hK K
        try simp only [Act.put, List.setIfInBounds_toArray, List.set_cons_zero, List.set_cons_succ, List.getElem_toArray, List.getElem_cons_zero, List.getElem_cons_succ]
        refine wpAnyH_take (i := 8) (v := ?_) rfl (by kernel_rfl) (by kernel_rfl) (by kernel_rfl) (fun _ _ _ h => h) (Or.inl ⟨by rfl, ?_⟩) (by assumption) ?_
        rotate_left
        · (intro w9 hS9; try simp only [List.getElem_toArray, List.getElem_cons_zero, List.getElem_cons_succ]
           go_simp <;> rfl)
        try simp only [Act.put, List.setIfInBounds_toArray, List.set_cons_zero, List.set_cons_succ, List.getElem_toArray, List.getElem_cons_zero, List.getElem_cons_succ]
        refine wpAnyH_ready (rs := [9]) (by kernel_rfl) (by simp) ?_
        refine AllReadyH.cons rfl (fun K hK => ?_) AllReadyH.nil
        try simp only [List.getElem_toArray, List.getElem_cons_zero, List.getElem_cons_succ]
        try go_simp
        obtain ⟨V2, hV2⟩ : ∃ V9, V9 = V0.alloc (.cells (encPc ((S9, max f.round 0) : Int × Int)).toArray 169) := ⟨_, rfl⟩
        have HV2 := hide (HV0.out.alloc (.cells (encPc ((S9, max f.round 0) : Int × Int)).toArray 169))
        have HO2 := hide (HO0.out.alloc (.cells (encPc ((S9, max f.round 0) : Int × Int)).toArray 169))
        have HI2 := hide (Blk.new V0 169 (encPc ((S9, max f.round 0) : Int × Int)).toArray)
        simp only [encPc] at hV2
        rw [← hV2]
        rw [show V0.alloc (.cells (encPc ((S9, max f.round 0) : Int × Int)).toArray 169) = V2 from hV2.symm] at HV2 HO2 HI2
        have hoc : V2.ownsRow base 169 2 (.slice A10 m c10) m (flat encPc f.came) := by
          have := HV2.out.oc
          rw [← HMl.out] at this
          exact this
        have HOc := hide hoc
        clear hV2 hoc
        refine hK.out _ _ (by rw [HMl.out, HV2.out.blk.cell]; rfl) (fun hHeld => ?_)
        clear hK K
        try simp only [Act.put, List.setIfInBounds_toArray, List.set_cons_zero, List.set_cons_succ, List.getElem_toArray, List.getElem_cons_zero, List.getElem_cons_succ]
        refine wpAnyH_ready (rs := [10]) (by kernel_rfl) (by simp) ?_
        refine AllReadyH.cons rfl (fun K hK => ?_) AllReadyH.nil
        refine step_append_rd V2 (by rfl) (.tmp 79) (.tmp 84) _ (by rfl) base 169 ip _ 2 16 Tryz.underlying146 hip hpz0 hpz1 hpz2 rfl (by omega) (.slice A10 m c10) m (flat encPc f.came) (by rfl) HOc.out NoBlk (some ⟨V0.heap.size, 0, none⟩) 1 1 (encPc ((S9, max f.round 0) : Int × Int)) (by rfl) (rd_blkN HI2.out (fun h => h)) rfl (encPc_one _) (by simp only [maxLen]; omega) (by omega) HV2.out.bs ?_
        intro v9 V3 hown2 hgr _
        obtain ⟨A4, c4, rfl, hc4⟩ := own_cap hown2
        have HG3 := hide (show V2.grownBy V3 (Value.slice A10 f.came.length c10).ownBlock by rw [← HMl.out]; exact hgr)
        have HOw3 := hide hown2
        have HB3 := hide (HV2.out.growB HG3.out)
        clear hgr hown2
        refine hK.out _ _ (by rw [HMl.out, HB3.out.cell]; rfl) (fun hHeld => ?_)
        clear hK K
        try simp only [Act.put, List.setIfInBounds_toArray, List.set_cons_zero, List.set_cons_succ, List.getElem_toArray, List.getElem_cons_zero, List.getElem_cons_succ]
        refine wpAnyH_take (i := 11) (v := ?_) rfl (by kernel_rfl) (by kernel_rfl) (by kernel_rfl) (fun _ _ _ h => h) (Or.inl ⟨by rfl, ?_⟩) (by assumption) ?_
        rotate_left
        · (intro w9 hS9; try simp only [List.getElem_toArray, List.getElem_cons_zero, List.getElem_cons_succ]
           go_simp <;> rfl)
        try simp only [Act.put, List.setIfInBounds_toArray, List.set_cons_zero, List.set_cons_succ, List.getElem_toArray, List.getElem_cons_zero, List.getElem_cons_succ]
        refine wpAnyH_take (i := 12) (v := ?_) rfl (by kernel_rfl) (by kernel_rfl) (by kernel_rfl) (fun _ _ _ h => h) (Or.inl ⟨by rfl, ?_⟩) (by assumption) ?_
        rotate_left
        · (intro w9 hS9; try simp only [List.getElem_toArray, List.getElem_cons_zero, List.getElem_cons_succ]
           go_simp <;> rfl)
        try simp only [Act.put, List.setIfInBounds_toArray, List.set_cons_zero, List.set_cons_succ, List.getElem_toArray, List.getElem_cons_zero, List.getElem_cons_succ]
        refine wpAnyH_done (by kernel_rfl) ?_ _
        simp only [Exit.then]
        clear hHeld
        have f11 := HB3.out.frozen 10
        have k11 : V3.cell? ⟨g, 10, none⟩ = some (.slice A10 f.came.length c10) := by rw [HB3.out.cell]; rfl
        go_wp2_with fail
        go_end0
        refine ⟨rfl, ?_, (HO2.out.grown HG3.out (fun k hk => Or.inl (own_ge HV2.out.oc k hk))).setCell (Or.inl hgb) _⟩
        rw [HQ.out]
        exact ⟨_, _, HV2.out.growC HG3.out HOw3.out (by rw [HMl.out])⟩
  have b4 : (k == 4) = false := by simp [c4]
  by_cases c8 : k = 8
  · have b8 : (k == 8) = true := by simp [c8]
    cases hbg : f.begun with
    | false =>
      rw [hbg] at k6
      have HQ := hide (HSee.out.trans (by rw [if_neg c1, if_neg c0, if_neg (by omega), if_neg (by omega), if_neg (by rw [hbg]; simp)]))
      clear c1 c0 c8 HSee HStep
      go_enter Tryz.func85, Tryz.ntmps85
      go_upto_region 1 with fail
      change Code.wp _ _ _ _ (w.alloc (.cells #[.int .i64 k, .int .i64 ei, .int .i64 en, .int .i64 et, .string es, .int .i64 ee, .int .i64 st, .int .i64 sa, .int .i64 sw, .int .i64 sr, .int .i64 sn, .int .i64 ss] 82))
      rw [← HW.out]
      go_wp2_with fail
      go_region
      go_wp2_with fail
      go_end0
      refine ⟨rfl, ?_, HO.out.drew⟩
      rw [HQ.out]
      exact ⟨va, vo, HM.out.drew⟩
    | true =>
      rw [hbg] at k6
      have HQ := hide (HSee.out.trans (by rw [if_neg c1, if_neg c0, if_neg (by omega), if_neg (by omega), if_pos ⟨c8, hbg⟩]))
      clear c1 c0 c8 HSee
      go_enter Tryz.func85, Tryz.ntmps85
      go_upto_region 1 with fail
      change Code.wp _ _ _ _ (w.alloc (.cells #[.int .i64 k, .int .i64 ei, .int .i64 en, .int .i64 et, .string es, .int .i64 ee, .int .i64 st, .int .i64 sa, .int .i64 sw, .int .i64 sr, .int .i64 sn, .int .i64 ss] 82))
      rw [← HW.out]
      go_wp2_with fail
      go_region
      go_wp2_with fail
      refine (HStep.out _ HM.out.drew HO.out.drew).mono ?_
      rintro e w4 ⟨rfl, hp4, ho4⟩
      go_wp2_with fail
      go_end0
      refine ⟨rfl, ?_, HO.out.drew.trans ho4⟩
      rw [HQ.out]
      exact hp4
  have b8 : (k == 8) = false := by simp [c8]
  cases hbg : f.begun
  all_goals rw [hbg] at k6
  all_goals
    have HQ := hide (HSee.out.trans (by rw [if_neg c1, if_neg c0, if_neg (by omega), if_neg (by omega), if_neg (by omega)]))
    clear c1 c0  HSee HStep
    go_enter Tryz.func85, Tryz.ntmps85
    go_upto_region 1 with fail
    change Code.wp _ _ _ _ (w.alloc (.cells #[.int .i64 k, .int .i64 ei, .int .i64 en, .int .i64 et, .string es, .int .i64 ee, .int .i64 st, .int .i64 sa, .int .i64 sw, .int .i64 sr, .int .i64 sn, .int .i64 ss] 82))
    rw [← HW.out]
    go_wp2_with fail
    go_region
    go_wp2_with fail
    go_end0
    refine ⟨rfl, ?_, HO.out.drew⟩
    rw [HQ.out]
    exact ⟨va, vo, HM.out.drew⟩
end Go.Proofs.YtdmdohjdmnmabaaGreat
