/- The walk through events that notes one's sends: a step, an event is seen. Conditions: those of each theorem. -/
import Derived.Test.YtdmdohjdmnmabaaGreatQo44
namespace Go.Proofs.YtdmdohjdmnmabaaGreat
open Go.RowKit
set_option linter.unusedVariables false
set_option linter.unusedSimpArgs false

set_option maxRecDepth 100000 in
set_option maxHeartbeats 12800000 in
theorem swstep_c (base g : Nat) (q : SwP) (f : SwM) (kk : Nat) (L : List OpV) (st sa sw sr sn ss : Int) (w : World) (h : SwAt w base g q f) (hsm : SwSm f kk) (hkk : kk ≤ 100000) (hr : OpsRd w (base ≤ ·) q.PA L) (hqn : q.n = L.length) (hn : L.length ≤ maxLen) (hs : q.s.size ≤ 9223372036854775807) (hsz : ∀ v ∈ L, OpSz v) :
    Calls Tryz.prog 119 #[.pointer (some ⟨g, 0, none⟩), .agg #[.int .i64 st, .int .i64 sa, .int .i64 sw, .int .i64 sr, .int .i64 sn, .int .i64 ss]] w fun e w' => e = .returned (.tuple #[]) ∧ SwAt w' base g q (stepS (progM q.s q.d q.j L) q.id ⟨st, sa, sw, sr, sn, ss⟩ f) ∧ Only (base ≤ ·) w w' ∧ SwKp w w' := by
  have hgb : base ≤ g := by obtain ⟨vo, h⟩ := h; exact h.hg
  have hgl : g < w.heap.size := by obtain ⟨vo, h⟩ := h; exact h.lt
  have hne1 : ¬ g = w.heap.size := by omega
  have hne2 : ¬ w.heap.size = g := by omega
  have HNx := hide (fun (w' : World) (k : Only (base ≤ ·) w w') => show Calls Tryz.prog 9 #[.agg #[.string q.s, .int .i64 q.d, .int .i64 q.j, .slice q.PA q.n q.pc], .agg #[.int .i64 st, .int .i64 sa, .int .i64 sw, .int .i64 sr, .int .i64 sn, .int .i64 ss]] w' _ from by
    rw [hqn]
    exact Next_c q.s q.d q.j q.PA q.pc L st sa sw sr sn ss w' (let z := hr.only k (fun _ h => h); ⟨z.1.mono (fun _ h => h.elim), fun v hv => (z.2 v hv).mono (fun _ h => h.elim)⟩) hn hs hsz)
  have HCo := hide (fun (f' : SwM) (op : Int) (w' : World) (h' : SwAt w' base g q f') (k : Only (base ≤ ·) w w') => swcome_c base g q f' op L w' h' (hr.only k (fun _ h => h)) hqn hn hsz)
  obtain ⟨pm, hpm⟩ : ∃ pm, pm = progM q.s q.d q.j L := ⟨_, rfl⟩
  rw [← hpm] at HNx HCo ⊢
  have HSM := hide hsm
  have HST := hide (show stepS pm q.id ⟨st, sa, sw, sr, sn, ss⟩ f = if isLook ⟨st, sa, sw, sr, sn, ss⟩ = true then f else comeS pm q.id (NextM pm ⟨st, sa, sw, sr, sn, ss⟩) (closeS (if f.open_ = true then doneS f else f)) from rfl)
  obtain ⟨T, hT⟩ : ∃ T, T = stepS pm q.id ⟨st, sa, sw, sr, sn, ss⟩ f := ⟨_, rfl⟩
  rw [← hT] at HST ⊢
  obtain ⟨NX, hNX⟩ : ∃ NX, NX = NextM pm ⟨st, sa, sw, sr, sn, ss⟩ := ⟨_, rfl⟩
  rw [← hNX] at HST HNx
  obtain ⟨W, hW⟩ : ∃ W, W = w.alloc (.cells #[.int .i64 st, .int .i64 sa, .int .i64 sw, .int .i64 sr, .int .i64 sn, .int .i64 ss] 26) := ⟨_, rfl⟩
  have HM := hide (show SwAt W base g q f by rw [hW]; obtain ⟨vo, h⟩ := h; exact ⟨vo, h.alloc _⟩)
  have HO := hide (show Only (base ≤ ·) w W by rw [hW]; exact (Only.refl _ w).alloc _)
  have HS := hide (show Blk W w.heap.size 26 #[.int .i64 st, .int .i64 sa, .int .i64 sw, .int .i64 sr, .int .i64 sn, .int .i64 ss] by rw [hW]; exact Blk.new w 26 _)
  have HK := hide (show SwKp w W by rw [hW]; exact (SwKp.refl w).alloc _)
  have HW := hide hW
  have hxb : base ≤ w.heap.size := by omega
  clear h hr hqn hn hs hsz hsm hpm hT hNX hW
  obtain ⟨s0, s1, s2, s3, s4, s5⟩ := HS.out.six
  by_cases hl1 : sw = 1
  · have q1 : (sw == 1) = true := by simp [hl1]
    have HQ := hide (show T = f by rw [HST.out]; unfold isLook; simp [hl1])
    clear hl1
    go_enter Tryz.func119, Tryz.ntmps119
    go_upto_region 1 with fail
    change Code.wp _ _ _ _ (w.alloc (.cells #[.int .i64 st, .int .i64 sa, .int .i64 sw, .int .i64 sr, .int .i64 sn, .int .i64 ss] 26))
    rw [← HW.out]
    go_wp2_with fail
    refine bodyPost_ret (results_none rfl _ _ _) rfl ?_
    exact ⟨rfl, by rw [HQ.out]; exact HM.out, HO.out, HK.out⟩
  have q1 : (sw == 1) = false := by simp [hl1]
  by_cases hl5 : sw = 5
  · have q5 : (sw == 5) = true := by simp [hl5]
    have HQ := hide (show T = f by rw [HST.out]; unfold isLook; simp [hl5])
    clear hl1 hl5
    go_enter Tryz.func119, Tryz.ntmps119
    go_upto_region 1 with fail
    change Code.wp _ _ _ _ (w.alloc (.cells #[.int .i64 st, .int .i64 sa, .int .i64 sw, .int .i64 sr, .int .i64 sn, .int .i64 ss] 26))
    rw [← HW.out]
    go_wp2_with fail
    refine bodyPost_ret (results_none rfl _ _ _) rfl ?_
    exact ⟨rfl, by rw [HQ.out]; exact HM.out, HO.out, HK.out⟩
  have q5 : (sw == 5) = false := by simp [hl5]
  have HQ := hide (show T = comeS pm q.id NX (closeS (if f.open_ = true then doneS f else f)) by rw [HST.out, if_neg (by unfold isLook; simp [hl1, hl5])])
  clear hl1 hl5 HST
  go_enter Tryz.func119, Tryz.ntmps119
  go_upto_region 1 with fail
  change Code.wp _ _ _ _ (w.alloc (.cells #[.int .i64 st, .int .i64 sa, .int .i64 sw, .int .i64 sr, .int .i64 sn, .int .i64 ss] 26))
  rw [← HW.out]
  go_upto_region 2 with fail
  obtain ⟨vo, hm0⟩ := HM.out
  obtain ⟨_, _, _, _, _, _, _, k7, _⟩ := hm0.blk.sixteen
  clear hm0
  obtain ⟨f1, hf1⟩ : ∃ f1, f1 = (if f.open_ = true then doneS f else f) := ⟨_, rfl⟩
  have HSM1 := hide (show SwSm f1 kk by rw [hf1]; split; exact sm_done HSM.out; exact HSM.out)
  rw [← hf1] at HQ
  have HF1 := hide hf1
  clear hf1
  go_upto_if 15 with fail
  go_cut [] from 15 to 17 (fun wx => Hid (SwAt wx base g q f1) ∧ Hid (Only (base ≤ ·) w wx) ∧ Hid (SwKp w wx) ∧ Hid (Blk wx w.heap.size 26 #[.int .i64 st, .int .i64 sa, .int .i64 sw, .int .i64 sr, .int .i64 sn, .int .i64 ss]))
  case first =>
    cases ho : f.open_ with
    | false =>
      rw [ho] at k7
      have HM1 := hide (show SwAt W base g q f1 by rw [HF1.out, ho]; exact HM.out)
      clear ho
      go_wp2_with fail
      go_meet
      exact ⟨HM1, HO, HK, HS⟩
    | true =>
      rw [ho] at k7
      have HF2 := hide (show f1 = doneS f by rw [HF1.out, ho]; rfl)
      clear ho
      go_wp2_with fail
      refine (swdone_c base g q f W HM.out).mono ?_
      rintro e w3 ⟨rfl, h3, ho3, hk3⟩
      rw [← HF2.out] at h3
      have H3 := hide h3
      have HO3 := hide (HO.out.trans ho3)
      have HK3 := hide (HK.out.trans hk3)
      have HS3 := hide (hk3 _ _ _ (by decide) (by decide) HS.out)
      clear h3 ho3 hk3
      go_wp2_with fail
      go_meet
      exact ⟨H3, HO3, HK3, HS3⟩
  case rest =>
    obtain ⟨HMc, HOc, HKc, HSc⟩ := hcut
    clear k7 s0 s1 s2 s3 s4 s5
    go_wp2_with fail
    refine (swclose_c base g q f1 kk _ HMc.out HSM1.out (by omega)).mono ?_
    rintro e w4 ⟨rfl, h4, ho4, hk4⟩
    have H4 := hide h4
    have HO4 := hide (HOc.out.trans ho4)
    have HK4 := hide (HKc.out.trans hk4)
    have HS4 := hide (hk4 _ _ _ (by decide) (by decide) HSc.out)
    clear h4 ho4 hk4
    obtain ⟨f2, hf2⟩ : ∃ f2, f2 = closeS f1 := ⟨_, rfl⟩
    rw [← hf2] at H4 HQ
    clear hf2
    go_upto_region 5 with fail
    obtain ⟨V0, hV0⟩ : ∃ V9, V9 = w4.drew := ⟨_, rfl⟩
    have HM0 := hide (show SwAt V0 base g q f2 by obtain ⟨vo, h⟩ := H4.out; rw [hV0]; exact ⟨vo, h.drew⟩)
    have HO0 := hide (show Only (base ≤ ·) w V0 by rw [hV0]; exact HO4.out.drew)
    have HK0 := hide (show SwKp w V0 by rw [hV0]; exact HK4.out.drew)
    have HS0 := hide (show Blk V0 w.heap.size 26 #[.int .i64 st, .int .i64 sa, .int .i64 sw, .int .i64 sr, .int .i64 sn, .int .i64 ss] by rw [hV0]; exact HS4.out.drew)
    refine wp_region_held (S := fun w' => w'.cell? ⟨g, 0, none⟩ = some (.string q.s) ∧ w'.cell? ⟨g, 1, none⟩ = some (.int .i64 q.d) ∧ w'.cell? ⟨g, 2, none⟩ = some (.int .i64 q.j) ∧ w'.cell? ⟨g, 3, none⟩ = some (.slice q.PA q.n q.pc) ∧ w'.cell? ⟨w.heap.size, 0, none⟩ = some (.int .i64 st) ∧ w'.cell? ⟨w.heap.size, 1, none⟩ = some (.int .i64 sa) ∧ w'.cell? ⟨w.heap.size, 2, none⟩ = some (.int .i64 sw) ∧ w'.cell? ⟨w.heap.size, 3, none⟩ = some (.int .i64 sr) ∧ w'.cell? ⟨w.heap.size, 4, none⟩ = some (.int .i64 sn) ∧ w'.cell? ⟨w.heap.size, 5, none⟩ = some (.int .i64 ss)) (by kernel_rfl) ?_
    change wpAnyH _ _ _ _ _ _ _ _ w4.drew
    have hHeld : (fun w' => w'.cell? ⟨g, 0, none⟩ = some (.string q.s) ∧ w'.cell? ⟨g, 1, none⟩ = some (.int .i64 q.d) ∧ w'.cell? ⟨g, 2, none⟩ = some (.int .i64 q.j) ∧ w'.cell? ⟨g, 3, none⟩ = some (.slice q.PA q.n q.pc) ∧ w'.cell? ⟨w.heap.size, 0, none⟩ = some (.int .i64 st) ∧ w'.cell? ⟨w.heap.size, 1, none⟩ = some (.int .i64 sa) ∧ w'.cell? ⟨w.heap.size, 2, none⟩ = some (.int .i64 sw) ∧ w'.cell? ⟨w.heap.size, 3, none⟩ = some (.int .i64 sr) ∧ w'.cell? ⟨w.heap.size, 4, none⟩ = some (.int .i64 sn) ∧ w'.cell? ⟨w.heap.size, 5, none⟩ = some (.int .i64 ss)) w4.drew := by rw [← hV0]; exact (by obtain ⟨_, hm⟩ := HM0.out; obtain ⟨q0, q1, q2, q3, _⟩ := hm.blk.sixteen; obtain ⟨q4, q5, q6, q7, q8, q9⟩ := (HS0.out).six; exact ⟨q0, q1, q2, q3, q4, q5, q6, q7, q8, q9⟩)
    rw [← hV0] at hHeld ⊢
    simp only [List.size_toArray, List.length_cons, List.length_nil, Nat.zero_add, Nat.reduceAdd]
    clear hV0
    refine wpAnyH_take (i := 0) (v := ?_) rfl (by kernel_rfl) (by kernel_rfl) (by kernel_rfl) (fun _ _ _ h => h) (Or.inl ⟨by rfl, ?_⟩) (by assumption) ?_
    rotate_left
    · (intro w9 hS9; try simp only [List.getElem_toArray, List.getElem_cons_zero, List.getElem_cons_succ]
       go_simp <;> rfl)
    refine wpAnyH_take (i := 1) (v := ?_) rfl (by kernel_rfl) (by kernel_rfl) (by kernel_rfl) (fun _ _ _ h => h) (Or.inl ⟨by rfl, ?_⟩) (by assumption) ?_
    rotate_left
    · (intro w9 hS9; try simp only [List.getElem_toArray, List.getElem_cons_zero, List.getElem_cons_succ]
       go_simp <;> rfl)
    refine wpAnyH_take (i := 2) (v := ?_) rfl (by kernel_rfl) (by kernel_rfl) (by kernel_rfl) (fun _ _ _ h => h) (Or.inl ⟨by rfl, ?_⟩) (by assumption) ?_
    rotate_left
    · (intro w9 hS9; try simp only [List.getElem_toArray, List.getElem_cons_zero, List.getElem_cons_succ]
       go_simp <;> rfl)
    refine wpAnyH_take (i := 3) (v := ?_) rfl (by kernel_rfl) (by kernel_rfl) (by kernel_rfl) (fun _ _ _ h => h) (Or.inl ⟨by rfl, ?_⟩) (by assumption) ?_
    rotate_left
    · (intro w9 hS9; try simp only [List.getElem_toArray, List.getElem_cons_zero, List.getElem_cons_succ]
       go_simp <;> rfl)
    refine wpAnyH_take (i := 4) (v := ?_) rfl (by kernel_rfl) (by kernel_rfl) (by kernel_rfl) (fun _ _ _ h => h) (Or.inl ⟨by rfl, ?_⟩) (by assumption) ?_
    rotate_left
    · (intro w9 hS9; try simp only [List.getElem_toArray, List.getElem_cons_zero, List.getElem_cons_succ]
       go_simp <;> rfl)
    refine wpAnyH_take (i := 5) (v := ?_) rfl (by kernel_rfl) (by kernel_rfl) (by kernel_rfl) (fun _ _ _ h => h) (Or.inl ⟨by rfl, ?_⟩) (by assumption) ?_
    rotate_left
    · (intro w9 hS9; try simp only [List.getElem_toArray, List.getElem_cons_zero, List.getElem_cons_succ]
       go_simp <;> rfl)
    try simp only [Act.put, List.setIfInBounds_toArray, List.set_cons_zero, List.set_cons_succ, List.getElem_toArray, List.getElem_cons_zero, List.getElem_cons_succ]
    refine wpAnyH_ready (rs := [6]) (by kernel_rfl) (by simp) ?_
    refine AllReadyH.cons rfl (fun K hK => ?_) AllReadyH.nil
    try simp only [List.getElem_toArray, List.getElem_cons_zero, List.getElem_cons_succ]
    try go_simp
    go_at_call 9
    refine (HNx.out _ HO0.out).mono ?_
    rintro e V1 ⟨rfl, ho5⟩
    have HM1 := hide (show SwAt V1 base g q f2 by obtain ⟨vo, h⟩ := HM0.out; exact ⟨vo, h.same ho5⟩)
    have HO1 := hide (HO0.out.trans (ho5.none (base ≤ ·)))
    have HK1 := hide (HK0.out.trans (SwKp.only ho5))
    have HS1 := hide (HS0.out.only ho5 (fun h => h))
    clear ho5
    refine hK.out _ _ (by obtain ⟨_, hm⟩ := HM1.out; obtain ⟨q0, q1, q2, q3, _⟩ := hm.blk.sixteen; obtain ⟨q4, q5, q6, q7, q8, q9⟩ := (HS1.out).six; exact ⟨q0, q1, q2, q3, q4, q5, q6, q7, q8, q9⟩) (fun hHeld => ?_)
    clear hK K
    try simp only [Act.put, List.setIfInBounds_toArray, List.set_cons_zero, List.set_cons_succ, List.getElem_toArray, List.getElem_cons_zero, List.getElem_cons_succ]
    refine wpAnyH_ready (rs := [7]) (by kernel_rfl) (by simp) ?_
    refine AllReadyH.cons rfl (fun K hK => ?_) AllReadyH.nil
    try simp only [List.getElem_toArray, List.getElem_cons_zero, List.getElem_cons_succ]
    try go_simp
    go_at_call 117
    refine (HCo.out f2 NX _ HM1.out HO1.out).mono ?_
    rintro e V2 ⟨rfl, h6, ho6, hk6⟩
    have HM2 := hide h6
    have HO2 := hide (HO1.out.trans ho6)
    have HK2 := hide (HK1.out.trans hk6)
    have HS2 := hide (hk6 _ _ _ (by decide) (by decide) HS1.out)
    clear h6 ho6 hk6
    refine hK.out _ _ (by obtain ⟨_, hm⟩ := HM2.out; obtain ⟨q0, q1, q2, q3, _⟩ := hm.blk.sixteen; obtain ⟨q4, q5, q6, q7, q8, q9⟩ := (HS2.out).six; exact ⟨q0, q1, q2, q3, q4, q5, q6, q7, q8, q9⟩) (fun hHeld => ?_)
    clear hK K
    try simp only [Act.put, List.setIfInBounds_toArray, List.set_cons_zero, List.set_cons_succ, List.getElem_toArray, List.getElem_cons_zero, List.getElem_cons_succ]
    refine wpAnyH_done (by kernel_rfl) ?_ _
    try simp only [Exit.then]
    clear hHeld
    go_wp2_with fail
    go_end0
    exact ⟨rfl, by rw [HQ.out]; exact HM2.out, HO2.out, HK2.out⟩
set_option maxRecDepth 100000 in
set_option maxHeartbeats 12800000 in
theorem swsee_c (base g : Nat) (q : SwP) (f : SwM) (kk : Nat) (L : List OpV) (k ei en et : Int) (es : ByteArray) (ee st sa sw sr sn ss : Int) (w : World) (h : SwAt w base g q f) (hsm : SwSm f kk) (hkk : kk ≤ 100000) (hr : OpsRd w (base ≤ ·) q.PA L) (hqn : q.n = L.length) (hn : L.length ≤ maxLen) (hs : q.s.size ≤ 9223372036854775807) (hsz : ∀ v ∈ L, OpSz v) :
    Calls Tryz.prog 97 #[.pointer (some ⟨g, 0, none⟩), .agg #[.int .i64 k, .int .i64 ei, .int .i64 en, .int .i64 et, .string es, .int .i64 ee, .int .i64 st, .int .i64 sa, .int .i64 sw, .int .i64 sr, .int .i64 sn, .int .i64 ss]] w fun e w' => e = .returned (.tuple #[]) ∧ SwAt w' base g q (seeS (progM q.s q.d q.j L) q.id f ⟨k, ei, en, et, es, ee, ⟨st, sa, sw, sr, sn, ss⟩⟩) ∧ Only (base ≤ ·) w w' ∧ SwKp w w' := by
  have hgb : base ≤ g := by obtain ⟨vo, h⟩ := h; exact h.hg
  have hgl : g < w.heap.size := by obtain ⟨vo, h⟩ := h; exact h.lt
  have hne1 : ¬ g = w.heap.size := by omega
  have hne2 : ¬ w.heap.size = g := by omega
  have hsr0 := hsm.r0
  have hsr1 := hsm.r1
  have HStep := hide (fun (w' : World) (hm : SwAt w' base g q f) (k : Only (base ≤ ·) w w') => swstep_c base g q f kk L st sa sw sr sn ss w' hm hsm hkk (hr.only k (fun _ h => h)) hqn hn hs hsz)
  have HCo := hide (fun (f' : SwM) (op : Int) (w' : World) (h' : SwAt w' base g q f') (k : Only (base ≤ ·) w w') => swcome_c base g q f' op L w' h' (hr.only k (fun _ h => h)) hqn hn hsz)
  have HWr := hide (fun (w' : World) (hm : SwAt w' base g q f) => swwrite_c base g q f en kk w' hm hsm)
  obtain ⟨pm, hpm⟩ : ∃ pm, pm = progM q.s q.d q.j L := ⟨_, rfl⟩
  rw [← hpm] at HStep HCo ⊢
  have HSee := hide (show seeS pm q.id f ⟨k, ei, en, et, es, ee, ⟨st, sa, sw, sr, sn, ss⟩⟩ = if k = 1 then { f with round := f.round + 1 } else if ei ≠ q.id then f
    else if k = 2 ∧ f.begun = false then comeS pm q.id 0 { f with begun := true }
    else if k = 6 ∧ f.begun = true then writeS en f
    else if k = 8 ∧ f.begun = true then stepS pm q.id ⟨st, sa, sw, sr, sn, ss⟩ f else f from rfl)
  obtain ⟨T, hT⟩ : ∃ T, T = seeS pm q.id f ⟨k, ei, en, et, es, ee, ⟨st, sa, sw, sr, sn, ss⟩⟩ := ⟨_, rfl⟩
  rw [← hT] at HSee ⊢
  obtain ⟨vo, h⟩ := h
  obtain ⟨W, hW⟩ : ∃ W, W = w.alloc (.cells #[.int .i64 k, .int .i64 ei, .int .i64 en, .int .i64 et, .string es, .int .i64 ee, .int .i64 st, .int .i64 sa, .int .i64 sw, .int .i64 sr, .int .i64 sn, .int .i64 ss] 82) := ⟨_, rfl⟩
  have HM := hide (show SwMid W base g q f vo by rw [hW]; exact h.alloc _)
  have HO := hide (show Only (base ≤ ·) w W by rw [hW]; exact (Only.refl _ w).alloc _)
  have HK := hide (show SwKp w W by rw [hW]; exact (SwKp.refl w).alloc _)
  have HX := hide (show Blk W w.heap.size 82 #[.int .i64 k, .int .i64 ei, .int .i64 en, .int .i64 et, .string es, .int .i64 ee, .int .i64 st, .int .i64 sa, .int .i64 sw, .int .i64 sr, .int .i64 sn, .int .i64 ss] by rw [hW]; exact Blk.new w 82 _)
  have HW := hide hW
  obtain ⟨k0, k1, k2, k3, k4, k5, k6, k7, k8, k9, k10, k11, k12, k13, k14, k15⟩ := HM.out.blk.sixteen
  obtain ⟨x0, x1, x2, x3, x4, x5, x6, x7, x8, x9, x10, x11⟩ := HX.out.twelve
  have f5 := HM.out.blk.frozen 5
  have f6 := HM.out.blk.frozen 6
  clear h hr hqn hn hs hsz hW hsm hpm hT
  by_cases c1 : k = 1
  · have b1 : (k == 1) = true := by simp [c1]
    have HQ := hide (HSee.out.trans (by rw [if_pos c1]))
    have w1 : IntKind.i64.wrap (f.round + 1) = f.round + 1 := IntWalk.i64_in _ (by omega)
    clear c1 HSee HStep HCo HWr
    go_enter Tryz.func97, Tryz.ntmps97
    go_upto_region 1 with fail
    change Code.wp _ _ _ _ (w.alloc (.cells #[.int .i64 k, .int .i64 ei, .int .i64 en, .int .i64 et, .string es, .int .i64 ee, .int .i64 st, .int .i64 sa, .int .i64 sw, .int .i64 sr, .int .i64 sn, .int .i64 ss] 82))
    rw [← HW.out]
    go_wp2_with fail
    go_end0
    refine ⟨rfl, ?_, HO.out.setCell (Or.inl hgb) _, HK.out.trans (HM.out.kset 5 _)⟩
    rw [HQ.out]
    exact ⟨vo, HM.out.set (f' := { f with round := f.round + 1 }) 5 (.int .i64 (f.round + 1)) rfl rfl⟩
  have b1 : (k == 1) = false := by simp [c1]
  by_cases c0 : ei ≠ q.id
  · have b0 : (ei != q.id) = true := by simpa using c0
    have HQ := hide (HSee.out.trans (by rw [if_neg c1, if_pos c0]))
    clear c1 c0 HSee HStep HCo HWr
    go_enter Tryz.func97, Tryz.ntmps97
    go_upto_region 1 with fail
    change Code.wp _ _ _ _ (w.alloc (.cells #[.int .i64 k, .int .i64 ei, .int .i64 en, .int .i64 et, .string es, .int .i64 ee, .int .i64 st, .int .i64 sa, .int .i64 sw, .int .i64 sr, .int .i64 sn, .int .i64 ss] 82))
    rw [← HW.out]
    go_wp2_with fail
    go_region
    go_wp2_with fail
    go_end0
    refine ⟨rfl, ?_, HO.out.drew, HK.out.drew⟩
    rw [HQ.out]
    exact ⟨vo, HM.out.drew⟩
  have b0 : (ei != q.id) = false := by simpa using c0
  by_cases c2 : k = 2
  · have b2 : (k == 2) = true := by simp [c2]
    have b6 : (k == 6) = false := by simp [c2]
    have b8 : (k == 8) = false := by simp [c2]
    cases hbg : f.begun with
    | true =>
      rw [hbg] at k6
      have HQ := hide (HSee.out.trans (by rw [if_neg c1, if_neg c0, if_neg (by rw [hbg]; simp), if_neg (by omega), if_neg (by omega)]))
      clear c1 c0 c2 HSee HStep HCo HWr
      go_enter Tryz.func97, Tryz.ntmps97
      go_upto_region 1 with fail
      change Code.wp _ _ _ _ (w.alloc (.cells #[.int .i64 k, .int .i64 ei, .int .i64 en, .int .i64 et, .string es, .int .i64 ee, .int .i64 st, .int .i64 sa, .int .i64 sw, .int .i64 sr, .int .i64 sn, .int .i64 ss] 82))
      rw [← HW.out]
      go_wp2_with fail
      go_region
      go_wp2_with fail
      go_end0
      refine ⟨rfl, ?_, HO.out.drew, HK.out.drew⟩
      rw [HQ.out]
      exact ⟨vo, HM.out.drew⟩
    | false =>
      rw [hbg] at k6
      have HQ := hide (HSee.out.trans (by rw [if_neg c1, if_neg c0, if_pos ⟨c2, hbg⟩]))
      clear c1 c0 c2 HSee HStep HWr
      go_enter Tryz.func97, Tryz.ntmps97
      go_upto_region 1 with fail
      change Code.wp _ _ _ _ (w.alloc (.cells #[.int .i64 k, .int .i64 ei, .int .i64 en, .int .i64 et, .string es, .int .i64 ee, .int .i64 st, .int .i64 sa, .int .i64 sw, .int .i64 sr, .int .i64 sn, .int .i64 ss] 82))
      rw [← HW.out]
      go_wp2_with fail
      go_region
      go_upto_region 6 with fail
      obtain ⟨V1, hV1⟩ : ∃ V1, V1 = (W.setCell ⟨g, 6, none⟩ (.bool true)).drew := ⟨_, rfl⟩
      have HM1 := hide (show SwAt V1 base g q { f with begun := true } by rw [hV1]; exact ⟨vo, (HM.out.set (f' := { f with begun := true }) 6 (.bool true) rfl rfl).drew⟩)
      have HO1 := hide (show Only (base ≤ ·) w V1 by rw [hV1]; exact (HO.out.setCell (Or.inl hgb) _).drew)
      have HK1 := hide (show SwKp w V1 by rw [hV1]; exact (HK.out.trans (HM.out.kset 6 _)).drew)
      rw [← hV1]
      clear hV1
      go_wp2_with fail
      refine (HCo.out { f with begun := true } 0 _ HM1.out HO1.out).mono ?_
      rintro e w4 ⟨rfl, h4, ho4, hk4⟩
      have H4 := hide h4
      have HO4 := hide (HO1.out.trans ho4)
      have HK4 := hide (HK1.out.trans hk4)
      clear h4 ho4 hk4
      go_wp2_with fail
      go_end0
      exact ⟨rfl, by rw [HQ.out]; exact H4.out, HO4.out, HK4.out⟩
  have b2 : (k == 2) = false := by simp [c2]
  by_cases c6 : k = 6
  · have b6 : (k == 6) = true := by simp [c6]
    have b8 : (k == 8) = false := by simp [c6]
    cases hbg : f.begun with
    | false =>
      rw [hbg] at k6
      have HQ := hide (HSee.out.trans (by rw [if_neg c1, if_neg c0, if_neg (by omega), if_neg (by rw [hbg]; simp), if_neg (by omega)]))
      clear c1 c0 c6 HSee HStep HCo HWr
      go_enter Tryz.func97, Tryz.ntmps97
      go_upto_region 1 with fail
      change Code.wp _ _ _ _ (w.alloc (.cells #[.int .i64 k, .int .i64 ei, .int .i64 en, .int .i64 et, .string es, .int .i64 ee, .int .i64 st, .int .i64 sa, .int .i64 sw, .int .i64 sr, .int .i64 sn, .int .i64 ss] 82))
      rw [← HW.out]
      go_wp2_with fail
      go_region
      go_wp2_with fail
      go_end0
      refine ⟨rfl, ?_, HO.out.drew, HK.out.drew⟩
      rw [HQ.out]
      exact ⟨vo, HM.out.drew⟩
    | true =>
      rw [hbg] at k6
      have HQ := hide (HSee.out.trans (by rw [if_neg c1, if_neg c0, if_neg (by omega), if_pos ⟨c6, hbg⟩]))
      clear c1 c0 c6 HSee
      go_enter Tryz.func97, Tryz.ntmps97
      go_upto_region 1 with fail
      change Code.wp _ _ _ _ (w.alloc (.cells #[.int .i64 k, .int .i64 ei, .int .i64 en, .int .i64 et, .string es, .int .i64 ee, .int .i64 st, .int .i64 sa, .int .i64 sw, .int .i64 sr, .int .i64 sn, .int .i64 ss] 82))
      rw [← HW.out]
      go_wp2_with fail
      go_region
      go_wp2_with fail
      refine (HWr.out _ ⟨vo, HM.out.drew⟩).mono ?_
      rintro e w4 ⟨rfl, h4, ho4, hk4⟩
      have H4 := hide h4
      have HO4 := hide (HO.out.drew.trans ho4)
      have HK4 := hide (HK.out.drew.trans hk4)
      clear h4 ho4 hk4
      go_wp2_with fail
      go_end0
      exact ⟨rfl, by rw [HQ.out]; exact H4.out, HO4.out, HK4.out⟩
  have b6 : (k == 6) = false := by simp [c6]
  by_cases c8 : k = 8
  · have b8 : (k == 8) = true := by simp [c8]
    have b9 : (k == 9) = false := by simp [c8]
    cases hbg : f.begun with
    | false =>
      rw [hbg] at k6
      have HQ := hide (HSee.out.trans (by rw [if_neg c1, if_neg c0, if_neg (by omega), if_neg (by omega), if_neg (by rw [hbg]; simp)]))
      clear c1 c0 c8 HSee HStep HCo HWr
      go_enter Tryz.func97, Tryz.ntmps97
      go_upto_region 1 with fail
      change Code.wp _ _ _ _ (w.alloc (.cells #[.int .i64 k, .int .i64 ei, .int .i64 en, .int .i64 et, .string es, .int .i64 ee, .int .i64 st, .int .i64 sa, .int .i64 sw, .int .i64 sr, .int .i64 sn, .int .i64 ss] 82))
      rw [← HW.out]
      go_wp2_with fail
      go_region
      go_wp2_with fail
      go_end0
      refine ⟨rfl, ?_, HO.out.drew, HK.out.drew⟩
      rw [HQ.out]
      exact ⟨vo, HM.out.drew⟩
    | true =>
      rw [hbg] at k6
      have HQ := hide (HSee.out.trans (by rw [if_neg c1, if_neg c0, if_neg (by omega), if_neg (by omega), if_pos ⟨c8, hbg⟩]))
      clear c1 c0 c8 HSee
      go_enter Tryz.func97, Tryz.ntmps97
      go_upto_region 1 with fail
      change Code.wp _ _ _ _ (w.alloc (.cells #[.int .i64 k, .int .i64 ei, .int .i64 en, .int .i64 et, .string es, .int .i64 ee, .int .i64 st, .int .i64 sa, .int .i64 sw, .int .i64 sr, .int .i64 sn, .int .i64 ss] 82))
      rw [← HW.out]
      go_wp2_with fail
      go_region
      go_wp2_with fail
      refine (HStep.out _ ⟨vo, HM.out.drew⟩ HO.out.drew).mono ?_
      rintro e w4 ⟨rfl, h4, ho4, hk4⟩
      have H4 := hide h4
      have HO4 := hide (HO.out.drew.trans ho4)
      have HK4 := hide (HK.out.drew.trans hk4)
      clear h4 ho4 hk4
      go_wp2_with fail
      go_end0
      exact ⟨rfl, by rw [HQ.out]; exact H4.out, HO4.out, HK4.out⟩
  have b8 : (k == 8) = false := by simp [c8]
  cases hbg : f.begun
  all_goals rw [hbg] at k6
  all_goals
    have HQ := hide (HSee.out.trans (by rw [if_neg c1, if_neg c0, if_neg (by omega), if_neg (by omega), if_neg (by omega)]))
    clear c1 c0  HSee HStep HCo HWr
    go_enter Tryz.func97, Tryz.ntmps97
    go_upto_region 1 with fail
    change Code.wp _ _ _ _ (w.alloc (.cells #[.int .i64 k, .int .i64 ei, .int .i64 en, .int .i64 et, .string es, .int .i64 ee, .int .i64 st, .int .i64 sa, .int .i64 sw, .int .i64 sr, .int .i64 sn, .int .i64 ss] 82))
    rw [← HW.out]
    go_wp2_with fail
    go_region
    go_wp2_with fail
    go_end0
    refine ⟨rfl, ?_, HO.out.drew, HK.out.drew⟩
    rw [HQ.out]
    exact ⟨vo, HM.out.drew⟩
end Go.Proofs.YtdmdohjdmnmabaaGreat
