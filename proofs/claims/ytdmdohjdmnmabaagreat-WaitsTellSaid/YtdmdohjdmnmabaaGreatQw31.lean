/- The page's life of one: a round of kind 8. Conditions: those of each theorem. -/
import Derived.Test.YtdmdohjdmnmabaaGreatQw26
namespace Go.Proofs.YtdmdohjdmnmabaaGreat
open Go.RowKit
set_option linter.unusedVariables false

set_option maxRecDepth 100000 in
set_option maxHeartbeats 16000000 in
theorem refOf_k8 (R' : Ending → World → Prop) (N K : Act → World → Prop) (bc : Code) (hbc : Tryz.f45.body.bind loopBody = some bc) (b o c n k : Nat) (l : List Ev) (id ck : Int) (w wr : World) (f : LifeM) (x : Ev) (hlt : k < n) (hn : n ≤ 10000)
 (g0 : wr.cell? ⟨b, o + k * 12, none⟩ = some (.int .i64 x.k)) (g1 : wr.cell? ⟨b, o + k * 12 + 1, none⟩ = some (.int .i64 x.id)) (g2 : wr.cell? ⟨b, o + k * 12 + 2, none⟩ = some (.int .i64 x.n)) (g3 : wr.cell? ⟨b, o + k * 12 + 3, none⟩ = some (.int .i64 x.tick)) (g4 : wr.cell? ⟨b, o + k * 12 + 4, none⟩ = some (.string x.s)) (g5 : wr.cell? ⟨b, o + k * 12 + 5, none⟩ = some (.int .i64 x.err)) (g6 : wr.cell? ⟨b, o + k * 12 + 6, none⟩ = some (.int .i64 x.st.tick)) (g7 : wr.cell? ⟨b, o + k * 12 + 7, none⟩ = some (.int .i64 x.st.at_)) (g8 : wr.cell? ⟨b, o + k * 12 + 8, none⟩ = some (.int .i64 x.st.what)) (g9 : wr.cell? ⟨b, o + k * 12 + 9, none⟩ = some (.int .i64 x.st.arm)) (g10 : wr.cell? ⟨b, o + k * 12 + 10, none⟩ = some (.int .i64 x.st.n)) (g11 : wr.cell? ⟨b, o + k * 12 + 11, none⟩ = some (.int .i64 x.st.status))
 (hxs : x.s.size ≤ 100) (hB0' : Blk wr w.heap.size 92 zeroV) (hbel : Below w.heap.size w wr) (hRL : RLAt wr (w.heap.size + 1) (w.heap.size + 1) id f) (hsm : Small f k) (HF2 : Hid (lifeGo id 0 (l.take (k + 1)) = some (addL id f x))) (hk : x.k = 8) (hid : x.id = id)
 (u10 u12 u13 u14 u15 u16 u17 u18 u19 u20 u21 u22 u23 u24 u25 u26 u27 u28 u29 u30 u31 u32 u33 u34 u35 u36 u37 u38 u39 u40 u41 u42 u43 u44 u45 u46 u47 u48 u49 u50 u51 u52 u53 u54 u55 u56 u57 u58 u59 u60 u61 u62 u63 u64 u65 u66 u67 u68 u69 u70 u71 u72 u73 u74 u75 u76 u77 u78 u79 u80 u81 u82 u83 u84 u85 u86 u87 u88 u89 u90 u91 u92 u93 u94 u95 u96 u97 u98 u99 u100 u101 u102 u103 u104 u105 u106 u107 u108 u109 u110 u111 u112 u113 u114 u115 u116 u117 u118 u119 u120 u121 u122 u123 u124 u125 u126 u127 u128 u129 u130 u131 u132 u133 u134 u135 u136 u137 u138 u139 u140 u141 u142 u143 u144 u145 u146 u147 u148 u149 u150 u151 u152 u153 u154 u155 u156 u157 u158 u159 u160 u161 u162 u163 u164 u165 u166 : Value) (hN : ∀ a' w', RoundN w id l n (some ⟨b, o, none⟩) c k a' w' → N a' w') :
 bc.wp Tryz.prog (Exit.then N (Exit.inBlock 0 (Exit.then K (bodyPost Tryz.prog Tryz.f45 R')))) { tmps := #[.slice (some ⟨b, o, none⟩) n c, .int .i64 id, undef, undef, .pointer (some ⟨w.heap.size, 0, none⟩), .bool false, .pointer (some ⟨w.heap.size + 1, 0, none⟩), .bool true, (.int .i64 ck), .int .i64 k, u10, .agg #[.int .i64 0, .int .i64 0, .int .i64 0, .slice none 0 0, .slice none 0 0, .slice none 0 0, .string ⟨#[]⟩, .string ⟨#[]⟩, .bool false, .int .i64 0], u12, u13, u14, u15, u16, u17, u18, u19, u20, u21, u22, u23, u24, u25, u26, u27, u28, u29, u30, u31, u32, u33, u34, u35, u36, u37, u38, u39, u40, u41, u42, u43, u44, u45, u46, u47, u48, u49, u50, u51, u52, u53, u54, u55, u56, u57, u58, u59, u60, u61, u62, u63, u64, u65, u66, u67, u68, u69, u70, u71, u72, u73, u74, u75, u76, u77, u78, u79, u80, u81, u82, u83, u84, u85, u86, u87, u88, u89, u90, u91, u92, u93, u94, u95, u96, u97, u98, u99, u100, u101, u102, u103, u104, u105, u106, u107, u108, u109, u110, u111, u112, u113, u114, u115, u116, u117, u118, u119, u120, u121, u122, u123, u124, u125, u126, u127, u128, u129, u130, u131, u132, u133, u134, u135, u136, u137, u138, u139, u140, u141, u142, u143, u144, u145, u146, u147, u148, u149, u150, u151, u152, u153, u154, u155, u156, u157, u158, u159, u160, u161, u162, u163, u164, u165, u166, undef, undef], defers := [] } wr := by
 injection hbc with hbc
 subst hbc
 have hB0 := hide hB0'
 have Hbel := hide hbel
 have HN := hide hN
 clear hB0' hbel hN
 obtain ⟨ii, hii, hiz0, hiz1, hiz2⟩ := info_parts Tryz.infoInp
 obtain ⟨io, hio, hoz0, hoz1, hoz2⟩ := info_parts Tryz.infoOut23
 obtain ⟨is, his, hsz0, hsz1, hsz2⟩ := info_parts Tryz.infoStp
 have hSm := hide (hsm.add (id := id) x hxs)
 obtain ⟨vi, vw, vs, xw, hm⟩ := hRL.ex
 obtain ⟨A1, c1, rfl, hc1⟩ := own_cap hm.oi
 obtain ⟨A2, c2, rfl, hc2⟩ := own_cap hm.ow
 obtain ⟨A3, c3, rfl, hc3⟩ := own_cap hm.os
 have hl1 : f.ins.length ≤ 10000 := Nat.le_trans hsm.ins (by omega)
 have hl2 : f.steps.length ≤ 10000 := Nat.le_trans hsm.steps (by omega)
 have hl3 : f.read.size + x.s.size ≤ 9223372036854775807 := by have := hsm.read; omega
 have hl4 : f.taken.size + x.s.size ≤ 9223372036854775807 := by have := hsm.taken; omega
 obtain ⟨⟨z0, z1, z2, z3, z4, z5, z6, z7, z8, z9⟩, f0, f1, f2, f3, f4, f5, f6, f7, f8, f9⟩ := hm.blk.ten
 have hFl := hm.blk.lt
 have hne : ¬ w.heap.size + 1 = wr.heap.size := by omega
 have hne2 : ¬ wr.heap.size = w.heap.size + 1 := by omega
 have HRV : Hid (RW w (wr.alloc (.cells (evV x) 82)) wr.heap.size x (lifeV id f (.slice A1 f.ins.length c1) (.slice A2 f.ins.length c2) (.slice A3 f.steps.length c3)) (.slice A1 f.ins.length c1) f.ins.length (flat encInp f.ins) (.slice A2 f.ins.length c2) f.ins.length xw (.slice A3 f.steps.length c3) f.steps.length (flat encStp f.steps)) :=
  hide ⟨hm.alloc _, Blk.new _ _ _, hB0.out.alloc _, Hbel.out.alloc Hbel.out.size _, by simp; omega⟩
 have HRV2 := HRV
 simp only [evV] at HRV2
 clear hm hRL hsm
 have q7 : (x.k == 7) = false := by simp [hk]
 have hidb : (x.id != id) = false := by simp [hid]
 have p4 : (x.k == 4) = false := by simp [hk]
 have p5 : (x.k == 5) = false := by simp [hk]
 have p6 : (x.k == 6) = false := by simp [hk]
 have p8 : (x.k == 8) = true := by simp [hk]
 have HA := hide (show addL id f x = { f with ins := f.ins ++ [⟨5, ⟨#[]⟩, 0, x.st.tick⟩], steps := f.steps ++ [x.st], status := x.st.status } by unfold addL; rw [if_neg (show ¬ (x.k = 7 ∧ f.status = 0) by omega), if_neg (show ¬ x.id ≠ id by simpa using hid), if_neg (show ¬ x.k = 4 by omega), if_neg (show ¬ x.k = 5 by omega), if_neg (show ¬ x.k = 6 by omega), if_pos hk])
 clear hk hid
 go_wp2_with fail
 go_cut [146] (fun _ wx => ∃ A4 c4 A5 c5 xw2, Hid (RW w wx wr.heap.size x (lifeV id f (.slice A4 (f.ins.length + 1) c4) (.slice A5 (f.ins.length + 1) c5) (.slice A3 f.steps.length c3)) (.slice A4 (f.ins.length + 1) c4) (f.ins.length + 1) (flat encInp f.ins ++ encInp ⟨5, ⟨#[]⟩, 0, x.st.tick⟩) (.slice A5 (f.ins.length + 1) c5) (f.ins.length + 1) xw2 (.slice A3 f.steps.length c3) f.steps.length (flat encStp f.steps)))
 case first =>
  obtain ⟨V0, hV0⟩ : ∃ V9, V9 = (wr.alloc (.cells #[.int .i64 x.k, .int .i64 x.id, .int .i64 x.n, .int .i64 x.tick, .string x.s, .int .i64 x.err, .int .i64 x.st.tick, .int .i64 x.st.at_, .int .i64 x.st.what, .int .i64 x.st.arm, .int .i64 x.st.n, .int .i64 x.st.status] 82)).drew := ⟨_, rfl⟩
  have R0 := hide (HRV2.out.drew)
  rw [← hV0] at R0
  refine wp_region_pref (l1 := ?_) (l2 := ?_) 16 (fun w' => w'.cell? ⟨w.heap.size + 1, 3, none⟩ = some (.slice A1 f.ins.length c1) ∧ w'.cell? ⟨w.heap.size + 1, 4, none⟩ = some (.slice A2 f.ins.length c2) ∧ w'.cell? ⟨wr.heap.size, 6, none⟩ = some (.int .i64 x.st.tick) ∧ w'.cell? ⟨wr.heap.size, 7, none⟩ = some (.int .i64 x.st.at_) ∧ w'.cell? ⟨wr.heap.size, 8, none⟩ = some (.int .i64 x.st.what) ∧ w'.cell? ⟨wr.heap.size, 9, none⟩ = some (.int .i64 x.st.arm) ∧ w'.cell? ⟨wr.heap.size, 10, none⟩ = some (.int .i64 x.st.n) ∧ w'.cell? ⟨wr.heap.size, 11, none⟩ = some (.int .i64 x.st.status)) (by kernel_rfl) ?_ ?_ ?_ ?_ ?_ ?_ (fun hHeld => ?_)
  rotate_left 2
  ·simp
  ·kernel_rfl
  ·kernel_rfl
  ·simp only [List.take_succ_cons, List.take_zero]; rfl
  ·simp only [List.drop_succ_cons, List.drop_zero]; rfl
  ·rw [← hV0]; exact ⟨R0.out.c3, R0.out.c4, R0.out.st⟩
  rw [← hV0] at hHeld ⊢
  clear hV0
  refine wpAnyH_take (i := 0) (v := ?_) rfl (by kernel_rfl) (by kernel_rfl) (by kernel_rfl) (fun _ _ _ h => h) (Or.inl ⟨by rfl, ?_⟩) (by assumption) ?_
  rotate_left
  ·(intro w9 hS9; simp only [List.getElem_toArray, List.getElem_cons_zero]; go_simp <;> rfl)
  simp only [Act.put, List.setIfInBounds_toArray, List.set_cons_zero, List.set_cons_succ, List.getElem_toArray, List.getElem_cons_zero]
  refine wpAnyH_take (i := 1) (v := ?_) rfl (by kernel_rfl) (by kernel_rfl) (by kernel_rfl) (fun _ _ _ h => h) (Or.inl ⟨by rfl, ?_⟩) (by assumption) ?_
  rotate_left
  ·(intro w9 hS9; simp only [List.getElem_toArray, List.getElem_cons_zero, List.getElem_cons_succ]; go_simp <;> rfl)
  simp only [Act.put, List.setIfInBounds_toArray, List.set_cons_zero, List.set_cons_succ, List.getElem_toArray, List.getElem_cons_zero, List.getElem_cons_succ]
  refine wpAnyH_take (i := 2) (v := ?_) rfl (by kernel_rfl) (by kernel_rfl) (by kernel_rfl) (fun _ _ _ h => h) (Or.inl ⟨by rfl, ?_⟩) (by assumption) ?_
  rotate_left
  ·(intro w9 hS9; simp only [List.getElem_toArray, List.getElem_cons_zero, List.getElem_cons_succ]; go_simp <;> rfl)
  simp only [Act.put, List.setIfInBounds_toArray, List.set_cons_zero, List.set_cons_succ, List.getElem_toArray, List.getElem_cons_zero, List.getElem_cons_succ]
  refine wpAnyH_take (i := 3) (v := ?_) rfl (by kernel_rfl) (by kernel_rfl) (by kernel_rfl) (fun _ _ _ h => h) (Or.inl ⟨by rfl, ?_⟩) (by assumption) ?_
  rotate_left
  ·(intro w9 hS9; simp only [List.getElem_toArray, List.getElem_cons_zero, List.getElem_cons_succ]; go_simp <;> rfl)
  simp only [Act.put, List.setIfInBounds_toArray, List.set_cons_zero, List.set_cons_succ, List.getElem_toArray, List.getElem_cons_zero, List.getElem_cons_succ]
  refine wpAnyH_take (i := 4) (v := ?_) rfl (by kernel_rfl) (by kernel_rfl) (by kernel_rfl) (fun _ _ _ h => h) (Or.inl ⟨by rfl, ?_⟩) (by assumption) ?_
  rotate_left
  ·(intro w9 hS9; simp only [List.getElem_toArray, List.getElem_cons_zero, List.getElem_cons_succ]; go_simp <;> rfl)
  simp only [Act.put, List.setIfInBounds_toArray, List.set_cons_zero, List.set_cons_succ, List.getElem_toArray, List.getElem_cons_zero, List.getElem_cons_succ]
  refine wpAnyH_take (i := 5) (v := ?_) rfl (by kernel_rfl) (by kernel_rfl) (by kernel_rfl) (fun _ _ _ h => h) (Or.inl ⟨by rfl, ?_⟩) (by assumption) ?_
  rotate_left
  ·(intro w9 hS9; simp only [List.getElem_toArray, List.getElem_cons_zero, List.getElem_cons_succ]; go_simp <;> rfl)
  simp only [Act.put, List.setIfInBounds_toArray, List.set_cons_zero, List.set_cons_succ, List.getElem_toArray, List.getElem_cons_zero, List.getElem_cons_succ]
  refine wpAnyH_take (i := 8) (v := ?_) rfl (by kernel_rfl) (by kernel_rfl) (by kernel_rfl) (fun _ _ _ h => h) (Or.inl ⟨by rfl, ?_⟩) (by assumption) ?_
  rotate_left
  ·(intro w9 hS9; simp only [List.getElem_toArray, List.getElem_cons_zero, List.getElem_cons_succ]; go_simp <;> rfl)
  simp only [Act.put, List.setIfInBounds_toArray, List.set_cons_zero, List.set_cons_succ, List.getElem_toArray, List.getElem_cons_zero, List.getElem_cons_succ]
  refine wpAnyH_take (i := 9) (v := ?_) rfl (by kernel_rfl) (by kernel_rfl) (by kernel_rfl) (fun _ _ _ h => h) (Or.inl ⟨by rfl, ?_⟩) (by assumption) ?_
  rotate_left
  ·(intro w9 hS9; simp only [List.getElem_toArray, List.getElem_cons_zero, List.getElem_cons_succ]; go_simp <;> rfl)
  simp only [Act.put, List.setIfInBounds_toArray, List.set_cons_zero, List.set_cons_succ, List.getElem_toArray, List.getElem_cons_zero, List.getElem_cons_succ]
  refine wpAnyH_take (i := 10) (v := ?_) rfl (by kernel_rfl) (by kernel_rfl) (by kernel_rfl) (fun _ _ _ h => h) (Or.inl ⟨by rfl, ?_⟩) (by assumption) ?_
  rotate_left
  ·(intro w9 hS9; simp only [List.getElem_toArray, List.getElem_cons_zero, List.getElem_cons_succ]; go_simp <;> rfl)
  simp only [Act.put, List.setIfInBounds_toArray, List.set_cons_zero, List.set_cons_succ, List.getElem_toArray, List.getElem_cons_zero, List.getElem_cons_succ]
  refine wpAnyH_take (i := 11) (v := ?_) rfl (by kernel_rfl) (by kernel_rfl) (by kernel_rfl) (fun _ _ _ h => h) (Or.inl ⟨by rfl, ?_⟩) (by assumption) ?_
  rotate_left
  ·(intro w9 hS9; simp only [List.getElem_toArray, List.getElem_cons_zero, List.getElem_cons_succ]; go_simp <;> rfl)
  simp only [Act.put, List.setIfInBounds_toArray, List.set_cons_zero, List.set_cons_succ, List.getElem_toArray, List.getElem_cons_zero, List.getElem_cons_succ]
  refine wpAnyH_take (i := 12) (v := ?_) rfl (by kernel_rfl) (by kernel_rfl) (by kernel_rfl) (fun _ _ _ h => h) (Or.inl ⟨by rfl, ?_⟩) (by assumption) ?_
  rotate_left
  ·(intro w9 hS9; simp only [List.getElem_toArray, List.getElem_cons_zero, List.getElem_cons_succ]; go_simp <;> rfl)
  simp only [Act.put, List.setIfInBounds_toArray, List.set_cons_zero, List.set_cons_succ, List.getElem_toArray, List.getElem_cons_zero, List.getElem_cons_succ]
  refine wpAnyH_ready (rs := [6, 13]) (by kernel_rfl) (by simp) ?_
  refine AllReadyH.cons rfl (fun K hK => ?_) ?_
  ·simp only [List.getElem_toArray, List.getElem_cons_zero, List.getElem_cons_succ]
   go_simp
   obtain ⟨V1, hV1⟩ : ∃ V9, V9 = V0.alloc (.cells #[.int .i64 5, .string ⟨#[]⟩, .int .i64 0, .int .i64 x.st.tick] 137) := ⟨_, rfl⟩
   have R1 := hide (R0.out.alloc (.cells #[.int .i64 5, .string ⟨#[]⟩, .int .i64 0, .int .i64 x.st.tick] 137))
   have I1 := hide (Blk.new V0 137 #[.int .i64 5, .string ⟨#[]⟩, .int .i64 0, .int .i64 x.st.tick])
   rw [← hV1] at R1 I1 ⊢
   clear hV1
   refine hK.out _ _ ⟨R1.out.c3, R1.out.c4, R1.out.st⟩ (fun hHeld => ?_)
   clear hK K
   refine wpAnyH_ready (rs := [7, 13]) (by kernel_rfl) (by simp) ?_
   refine AllReadyH.cons rfl (fun K hK => ?_) ?_
   ·refine step_append_rd V1 (by rfl) (.tmp 140) (.tmp 145) _ (by rfl) (w.heap.size + 1) 137 ii _ 4 40 Tryz.underlying88 hii hiz0 hiz1 hiz2 rfl (by omega) (.slice A1 f.ins.length c1) f.ins.length (flat encInp f.ins) (by rfl) R1.out.mid.oi NoBlk (some ⟨V0.heap.size, 0, none⟩) 1 1 (encInp ⟨5, ⟨#[]⟩, 0, x.st.tick⟩) (by rfl) (rd_blkN I1.out (fun h => h)) rfl (encInp_one ⟨5, ⟨#[]⟩, 0, x.st.tick⟩) (by simp only [maxLen]; omega) (by omega) R1.out.le ?_
    intro v9 V2 hown2 hgr _
    obtain ⟨A4, c4, rfl, hc4⟩ := own_cap hown2
    have R2 := hide (R1.out.growI hgr hown2)
    clear hgr hown2
    refine hK.out _ _ ⟨R2.out.c3, R2.out.c4, R2.out.st⟩ (fun hHeld => ?_)
    clear hK K
    simp only [Act.put, List.setIfInBounds_toArray, List.set_cons_zero, List.set_cons_succ, List.getElem_toArray, List.getElem_cons_zero, List.getElem_cons_succ]
    refine wpAnyH_take (i := 15) (v := ?_) rfl (by kernel_rfl) (by kernel_rfl) (by kernel_rfl) (fun _ _ _ h => h) (Or.inl ⟨by rfl, ?_⟩) (by assumption) ?_
    rotate_left
    ·(intro w9 hS9; simp only [List.getElem_toArray, List.getElem_cons_zero, List.getElem_cons_succ]; go_simp <;> rfl)
    simp only [Act.put, List.setIfInBounds_toArray, List.set_cons_zero, List.set_cons_succ, List.getElem_toArray, List.getElem_cons_zero, List.getElem_cons_succ]
    refine wpAnyH_ready (rs := [13]) (by kernel_rfl) (by simp) ?_
    refine AllReadyH.cons rfl (fun K hK => ?_) ?_
    ·simp only [List.getElem_toArray, List.getElem_cons_zero, List.getElem_cons_succ]
     go_simp
     obtain ⟨V3, hV3⟩ : ∃ V9, V9 = V2.alloc (.cells #[.int .i64 0, .string ⟨#[]⟩, .int .i64 x.st.tick, .int .i64 x.st.at_, .int .i64 x.st.what, .int .i64 x.st.arm, .int .i64 x.st.n, .int .i64 x.st.status, .bool true] 139) := ⟨_, rfl⟩
     have R3 := hide (R2.out.alloc (.cells #[.int .i64 0, .string ⟨#[]⟩, .int .i64 x.st.tick, .int .i64 x.st.at_, .int .i64 x.st.what, .int .i64 x.st.arm, .int .i64 x.st.n, .int .i64 x.st.status, .bool true] 139))
     have O3 := hide (Blk.new V2 139 #[.int .i64 0, .string ⟨#[]⟩, .int .i64 x.st.tick, .int .i64 x.st.at_, .int .i64 x.st.what, .int .i64 x.st.arm, .int .i64 x.st.n, .int .i64 x.st.status, .bool true])
     rw [← hV3] at R3 O3 ⊢
     clear hV3
     refine hK.out _ _ ⟨R3.out.c3, R3.out.c4, R3.out.st⟩ (fun hHeld => ?_)
     clear hK K
     refine wpAnyH_ready (rs := [14]) (by kernel_rfl) (by simp) ?_
     refine AllReadyH.cons rfl (fun K hK => ?_) ?_
     ·refine step_append_rd V3 (by rfl) (.tmp 148) (.tmp 152) _ (by rfl) (w.heap.size + 1) 139 io _ 9 80 Tryz.underlying89 hio hoz0 hoz1 hoz2 rfl (by omega) (.slice A2 f.ins.length c2) f.ins.length xw (by rfl) R3.out.mid.ow NoBlk (some ⟨V2.heap.size, 0, none⟩) 1 1 (outV 0 ⟨#[]⟩ x.st true) (by rfl) (rd_blkN O3.out (fun h => h)) rfl (outV_one _ _ _ _) (by simp only [maxLen]; omega) (by omega) R3.out.le ?_
      intro v9 V4 hown2 hgr _
      obtain ⟨A5, c5, rfl, hc5⟩ := own_cap hown2
      have R4 := hide (R3.out.growW hgr hown2)
      clear hgr hown2
      refine hK.out _ _ ⟨R4.out.c3, R4.out.c4, R4.out.st⟩ (fun hHeld => ?_)
      clear hK K
      simp only [Act.put, List.setIfInBounds_toArray, List.set_cons_zero, List.set_cons_succ, List.getElem_toArray, List.getElem_cons_zero, List.getElem_cons_succ]
      refine wpAnyH_done (by kernel_rfl) ?_ _
      simp only [Exit.then]
      obtain ⟨⟨z0, z1, z2, z3, z4, z5, z6, z7, z8, z9⟩, f0, f1, f2, f3, f4, f5, f6, f7, f8, f9⟩ := R4.out.mid.blk.ten
      clear hHeld
      go_wp2_with fail
      go_meet
      exact ⟨A4, c4, A5, c5, _, hide (R4.out.put34 _ _)⟩
     exact AllReadyH.nil
    exact AllReadyH.nil
   refine AllReadyH.cons rfl (fun K hK => ?_) ?_
   ·simp only [List.getElem_toArray, List.getElem_cons_zero, List.getElem_cons_succ]
    go_simp
    obtain ⟨V2, hV2⟩ : ∃ V9, V9 = V1.alloc (.cells #[.int .i64 0, .string ⟨#[]⟩, .int .i64 x.st.tick, .int .i64 x.st.at_, .int .i64 x.st.what, .int .i64 x.st.arm, .int .i64 x.st.n, .int .i64 x.st.status, .bool true] 139) := ⟨_, rfl⟩
    have R2 := hide (R1.out.alloc (.cells #[.int .i64 0, .string ⟨#[]⟩, .int .i64 x.st.tick, .int .i64 x.st.at_, .int .i64 x.st.what, .int .i64 x.st.arm, .int .i64 x.st.n, .int .i64 x.st.status, .bool true] 139))
    have O2 := hide (Blk.new V1 139 #[.int .i64 0, .string ⟨#[]⟩, .int .i64 x.st.tick, .int .i64 x.st.at_, .int .i64 x.st.what, .int .i64 x.st.arm, .int .i64 x.st.n, .int .i64 x.st.status, .bool true])
    have I2 := hide (I1.out.alloc (.cells #[.int .i64 0, .string ⟨#[]⟩, .int .i64 x.st.tick, .int .i64 x.st.at_, .int .i64 x.st.what, .int .i64 x.st.arm, .int .i64 x.st.n, .int .i64 x.st.status, .bool true] 139))
    rw [← hV2] at R2 O2 I2 ⊢
    clear hV2
    refine hK.out _ _ ⟨R2.out.c3, R2.out.c4, R2.out.st⟩ (fun hHeld => ?_)
    clear hK K
    refine wpAnyH_ready (rs := [7]) (by kernel_rfl) (by simp) ?_
    refine AllReadyH.cons rfl (fun K hK => ?_) ?_
    ·refine step_append_rd V2 (by rfl) (.tmp 140) (.tmp 145) _ (by rfl) (w.heap.size + 1) 137 ii _ 4 40 Tryz.underlying88 hii hiz0 hiz1 hiz2 rfl (by omega) (.slice A1 f.ins.length c1) f.ins.length (flat encInp f.ins) (by rfl) R2.out.mid.oi NoBlk (some ⟨V0.heap.size, 0, none⟩) 1 1 (encInp ⟨5, ⟨#[]⟩, 0, x.st.tick⟩) (by rfl) (rd_blkN I2.out (fun h => h)) rfl (encInp_one ⟨5, ⟨#[]⟩, 0, x.st.tick⟩) (by simp only [maxLen]; omega) (by omega) R2.out.le ?_
     intro v9 V3 hown2 hgr _
     obtain ⟨A4, c4, rfl, hc4⟩ := own_cap hown2
     have R3 := hide (R2.out.growI hgr hown2)
     have O3 := hide (R2.out.sideI O2.out hgr (by decide))
     clear hgr hown2
     refine hK.out _ _ ⟨R3.out.c3, R3.out.c4, R3.out.st⟩ (fun hHeld => ?_)
     clear hK K
     simp only [Act.put, List.setIfInBounds_toArray, List.set_cons_zero, List.set_cons_succ, List.getElem_toArray, List.getElem_cons_zero, List.getElem_cons_succ]
     refine wpAnyH_take (i := 15) (v := ?_) rfl (by kernel_rfl) (by kernel_rfl) (by kernel_rfl) (fun _ _ _ h => h) (Or.inl ⟨by rfl, ?_⟩) (by assumption) ?_
     rotate_left
     ·(intro w9 hS9; simp only [List.getElem_toArray, List.getElem_cons_zero, List.getElem_cons_succ]; go_simp <;> rfl)
     simp only [Act.put, List.setIfInBounds_toArray, List.set_cons_zero, List.set_cons_succ, List.getElem_toArray, List.getElem_cons_zero, List.getElem_cons_succ]
     refine wpAnyH_ready (rs := [14]) (by kernel_rfl) (by simp) ?_
     refine AllReadyH.cons rfl (fun K hK => ?_) ?_
     ·refine step_append_rd V3 (by rfl) (.tmp 148) (.tmp 152) _ (by rfl) (w.heap.size + 1) 139 io _ 9 80 Tryz.underlying89 hio hoz0 hoz1 hoz2 rfl (by omega) (.slice A2 f.ins.length c2) f.ins.length xw (by rfl) R3.out.mid.ow NoBlk (some ⟨V1.heap.size, 0, none⟩) 1 1 (outV 0 ⟨#[]⟩ x.st true) (by rfl) (rd_blkN O3.out (fun h => h)) rfl (outV_one _ _ _ _) (by simp only [maxLen]; omega) (by omega) R3.out.le ?_
      intro v9 V4 hown2 hgr _
      obtain ⟨A5, c5, rfl, hc5⟩ := own_cap hown2
      have R4 := hide (R3.out.growW hgr hown2)
      clear hgr hown2
      refine hK.out _ _ ⟨R4.out.c3, R4.out.c4, R4.out.st⟩ (fun hHeld => ?_)
      clear hK K
      simp only [Act.put, List.setIfInBounds_toArray, List.set_cons_zero, List.set_cons_succ, List.getElem_toArray, List.getElem_cons_zero, List.getElem_cons_succ]
      refine wpAnyH_done (by kernel_rfl) ?_ _
      simp only [Exit.then]
      obtain ⟨⟨z0, z1, z2, z3, z4, z5, z6, z7, z8, z9⟩, f0, f1, f2, f3, f4, f5, f6, f7, f8, f9⟩ := R4.out.mid.blk.ten
      clear hHeld
      go_wp2_with fail
      go_meet
      exact ⟨A4, c4, A5, c5, _, hide (R4.out.put34 _ _)⟩
     exact AllReadyH.nil
    exact AllReadyH.nil
   exact AllReadyH.nil
  refine AllReadyH.cons rfl (fun K hK => ?_) ?_
  ·simp only [List.getElem_toArray, List.getElem_cons_zero, List.getElem_cons_succ]
   go_simp
   obtain ⟨V1, hV1⟩ : ∃ V9, V9 = V0.alloc (.cells #[.int .i64 0, .string ⟨#[]⟩, .int .i64 x.st.tick, .int .i64 x.st.at_, .int .i64 x.st.what, .int .i64 x.st.arm, .int .i64 x.st.n, .int .i64 x.st.status, .bool true] 139) := ⟨_, rfl⟩
   have R1 := hide (R0.out.alloc (.cells #[.int .i64 0, .string ⟨#[]⟩, .int .i64 x.st.tick, .int .i64 x.st.at_, .int .i64 x.st.what, .int .i64 x.st.arm, .int .i64 x.st.n, .int .i64 x.st.status, .bool true] 139))
   have O1 := hide (Blk.new V0 139 #[.int .i64 0, .string ⟨#[]⟩, .int .i64 x.st.tick, .int .i64 x.st.at_, .int .i64 x.st.what, .int .i64 x.st.arm, .int .i64 x.st.n, .int .i64 x.st.status, .bool true])
   rw [← hV1] at R1 O1 ⊢
   clear hV1
   refine hK.out _ _ ⟨R1.out.c3, R1.out.c4, R1.out.st⟩ (fun hHeld => ?_)
   clear hK K
   refine wpAnyH_ready (rs := [6]) (by kernel_rfl) (by simp) ?_
   refine AllReadyH.cons rfl (fun K hK => ?_) ?_
   ·simp only [List.getElem_toArray, List.getElem_cons_zero, List.getElem_cons_succ]
    go_simp
    obtain ⟨V2, hV2⟩ : ∃ V9, V9 = V1.alloc (.cells #[.int .i64 5, .string ⟨#[]⟩, .int .i64 0, .int .i64 x.st.tick] 137) := ⟨_, rfl⟩
    have R2 := hide (R1.out.alloc (.cells #[.int .i64 5, .string ⟨#[]⟩, .int .i64 0, .int .i64 x.st.tick] 137))
    have I2 := hide (Blk.new V1 137 #[.int .i64 5, .string ⟨#[]⟩, .int .i64 0, .int .i64 x.st.tick])
    have O2 := hide (O1.out.alloc (.cells #[.int .i64 5, .string ⟨#[]⟩, .int .i64 0, .int .i64 x.st.tick] 137))
    rw [← hV2] at R2 I2 O2 ⊢
    clear hV2
    refine hK.out _ _ ⟨R2.out.c3, R2.out.c4, R2.out.st⟩ (fun hHeld => ?_)
    clear hK K
    refine wpAnyH_ready (rs := [7]) (by kernel_rfl) (by simp) ?_
    refine AllReadyH.cons rfl (fun K hK => ?_) ?_
    ·refine step_append_rd V2 (by rfl) (.tmp 140) (.tmp 145) _ (by rfl) (w.heap.size + 1) 137 ii _ 4 40 Tryz.underlying88 hii hiz0 hiz1 hiz2 rfl (by omega) (.slice A1 f.ins.length c1) f.ins.length (flat encInp f.ins) (by rfl) R2.out.mid.oi NoBlk (some ⟨V1.heap.size, 0, none⟩) 1 1 (encInp ⟨5, ⟨#[]⟩, 0, x.st.tick⟩) (by rfl) (rd_blkN I2.out (fun h => h)) rfl (encInp_one ⟨5, ⟨#[]⟩, 0, x.st.tick⟩) (by simp only [maxLen]; omega) (by omega) R2.out.le ?_
     intro v9 V3 hown2 hgr _
     obtain ⟨A4, c4, rfl, hc4⟩ := own_cap hown2
     have R3 := hide (R2.out.growI hgr hown2)
     have O3 := hide (R2.out.sideI O2.out hgr (by decide))
     clear hgr hown2
     refine hK.out _ _ ⟨R3.out.c3, R3.out.c4, R3.out.st⟩ (fun hHeld => ?_)
     clear hK K
     simp only [Act.put, List.setIfInBounds_toArray, List.set_cons_zero, List.set_cons_succ, List.getElem_toArray, List.getElem_cons_zero, List.getElem_cons_succ]
     refine wpAnyH_take (i := 15) (v := ?_) rfl (by kernel_rfl) (by kernel_rfl) (by kernel_rfl) (fun _ _ _ h => h) (Or.inl ⟨by rfl, ?_⟩) (by assumption) ?_
     rotate_left
     ·(intro w9 hS9; simp only [List.getElem_toArray, List.getElem_cons_zero, List.getElem_cons_succ]; go_simp <;> rfl)
     simp only [Act.put, List.setIfInBounds_toArray, List.set_cons_zero, List.set_cons_succ, List.getElem_toArray, List.getElem_cons_zero, List.getElem_cons_succ]
     refine wpAnyH_ready (rs := [14]) (by kernel_rfl) (by simp) ?_
     refine AllReadyH.cons rfl (fun K hK => ?_) ?_
     ·refine step_append_rd V3 (by rfl) (.tmp 148) (.tmp 152) _ (by rfl) (w.heap.size + 1) 139 io _ 9 80 Tryz.underlying89 hio hoz0 hoz1 hoz2 rfl (by omega) (.slice A2 f.ins.length c2) f.ins.length xw (by rfl) R3.out.mid.ow NoBlk (some ⟨V0.heap.size, 0, none⟩) 1 1 (outV 0 ⟨#[]⟩ x.st true) (by rfl) (rd_blkN O3.out (fun h => h)) rfl (outV_one _ _ _ _) (by simp only [maxLen]; omega) (by omega) R3.out.le ?_
      intro v9 V4 hown2 hgr _
      obtain ⟨A5, c5, rfl, hc5⟩ := own_cap hown2
      have R4 := hide (R3.out.growW hgr hown2)
      clear hgr hown2
      refine hK.out _ _ ⟨R4.out.c3, R4.out.c4, R4.out.st⟩ (fun hHeld => ?_)
      clear hK K
      simp only [Act.put, List.setIfInBounds_toArray, List.set_cons_zero, List.set_cons_succ, List.getElem_toArray, List.getElem_cons_zero, List.getElem_cons_succ]
      refine wpAnyH_done (by kernel_rfl) ?_ _
      simp only [Exit.then]
      obtain ⟨⟨z0, z1, z2, z3, z4, z5, z6, z7, z8, z9⟩, f0, f1, f2, f3, f4, f5, f6, f7, f8, f9⟩ := R4.out.mid.blk.ten
      clear hHeld
      go_wp2_with fail
      go_meet
      exact ⟨A4, c4, A5, c5, _, hide (R4.out.put34 _ _)⟩
     exact AllReadyH.nil
    exact AllReadyH.nil
   exact AllReadyH.nil
  exact AllReadyH.nil
 case rest =>
  obtain ⟨A4, c4, A5, c5, xw2, hR⟩ := hcut
  obtain ⟨e0, e1, e2, e3, e4, e5, e6, e7, e8, e9, e10, e11⟩ := hR.out.ev.twelve
  obtain ⟨⟨b0, b1, b2, b3, b4, b5, b6, b7, b8, b9⟩, d0, d1, d2, d3, d4, d5, d6, d7, d8, d9⟩ := hR.out.mid.blk.ten
  clear z0 z1 z2 z3 z4 z5 z6 z7 z8 z9 f0 f1 f2 f3 f4 f5 f6 f7 f8 f9
  go_wp2_with fail
  obtain ⟨V0, hV0⟩ : ∃ V9, V9 = wc.drew := ⟨_, rfl⟩
  have R0 := hide hR.out.drew
  rw [← hV0] at R0
  refine wp_region_held_drew (S := fun w' => w'.cell? ⟨wr.heap.size, 6, none⟩ = some (.int .i64 x.st.tick) ∧ w'.cell? ⟨wr.heap.size, 7, none⟩ = some (.int .i64 x.st.at_) ∧ w'.cell? ⟨wr.heap.size, 8, none⟩ = some (.int .i64 x.st.what) ∧ w'.cell? ⟨wr.heap.size, 9, none⟩ = some (.int .i64 x.st.arm) ∧ w'.cell? ⟨wr.heap.size, 10, none⟩ = some (.int .i64 x.st.n) ∧ w'.cell? ⟨wr.heap.size, 11, none⟩ = some (.int .i64 x.st.status)) (by kernel_rfl) ?_ (fun hHeld => ?_)
  ·rw [← hV0]; exact R0.out.st
  rw [← hV0] at hHeld ⊢
  clear hV0
  refine wpAnyH_take (i := 0) (v := ?_) rfl (by kernel_rfl) (by kernel_rfl) (by kernel_rfl) (fun _ _ _ h => h) (Or.inl ⟨by rfl, ?_⟩) (by assumption) ?_
  rotate_left
  ·(intro w9 hS9; simp only [List.getElem_toArray, List.getElem_cons_zero]; go_simp <;> rfl)
  simp only [Act.put, List.setIfInBounds_toArray, List.set_cons_zero, List.set_cons_succ, List.getElem_toArray, List.getElem_cons_zero]
  refine wpAnyH_take (i := 2) (v := ?_) rfl (by kernel_rfl) (by kernel_rfl) (by kernel_rfl) (fun _ _ _ h => h) (Or.inl ⟨by rfl, ?_⟩) (by assumption) ?_
  rotate_left
  ·(intro w9 hS9; simp only [List.getElem_toArray, List.getElem_cons_zero, List.getElem_cons_succ]; go_simp <;> rfl)
  simp only [Act.put, List.setIfInBounds_toArray, List.set_cons_zero, List.set_cons_succ, List.getElem_toArray, List.getElem_cons_zero, List.getElem_cons_succ]
  refine wpAnyH_take (i := 3) (v := ?_) rfl (by kernel_rfl) (by kernel_rfl) (by kernel_rfl) (fun _ _ _ h => h) (Or.inl ⟨by rfl, ?_⟩) (by assumption) ?_
  rotate_left
  ·(intro w9 hS9; simp only [List.getElem_toArray, List.getElem_cons_zero, List.getElem_cons_succ]; go_simp <;> rfl)
  simp only [Act.put, List.setIfInBounds_toArray, List.set_cons_zero, List.set_cons_succ, List.getElem_toArray, List.getElem_cons_zero, List.getElem_cons_succ]
  refine wpAnyH_take (i := 6) (v := ?_) rfl (by kernel_rfl) (by kernel_rfl) (by kernel_rfl) (fun _ _ _ h => h) (Or.inl ⟨by rfl, ?_⟩) (by assumption) ?_
  rotate_left
  ·(intro w9 hS9; simp only [List.getElem_toArray, List.getElem_cons_zero, List.getElem_cons_succ]; go_simp <;> rfl)
  simp only [Act.put, List.setIfInBounds_toArray, List.set_cons_zero, List.set_cons_succ, List.getElem_toArray, List.getElem_cons_zero, List.getElem_cons_succ]
  refine wpAnyH_take (i := 7) (v := ?_) rfl (by kernel_rfl) (by kernel_rfl) (by kernel_rfl) (fun _ _ _ h => h) (Or.inl ⟨by rfl, ?_⟩) (by assumption) ?_
  rotate_left
  ·(intro w9 hS9; simp only [List.getElem_toArray, List.getElem_cons_zero, List.getElem_cons_succ]; go_simp <;> rfl)
  simp only [Act.put, List.setIfInBounds_toArray, List.set_cons_zero, List.set_cons_succ, List.getElem_toArray, List.getElem_cons_zero, List.getElem_cons_succ]
  refine wpAnyH_take (i := 8) (v := ?_) rfl (by kernel_rfl) (by kernel_rfl) (by kernel_rfl) (fun _ _ _ h => h) (Or.inl ⟨by rfl, ?_⟩) (by assumption) ?_
  rotate_left
  ·(intro w9 hS9; simp only [List.getElem_toArray, List.getElem_cons_zero, List.getElem_cons_succ]; go_simp <;> rfl)
  simp only [Act.put, List.setIfInBounds_toArray, List.set_cons_zero, List.set_cons_succ, List.getElem_toArray, List.getElem_cons_zero, List.getElem_cons_succ]
  refine wpAnyH_ready (rs := [1, 4]) (by kernel_rfl) (by simp) ?_
  refine AllReadyH.cons rfl (fun K hK => ?_) ?_
  ·have y5 := R0.out.c5
   simp only [List.getElem_toArray, List.getElem_cons_zero, List.getElem_cons_succ]
   go_simp
   refine hK.out _ _ R0.out.st (fun hHeld => ?_)
   clear hK K y5
   refine wpAnyH_ready (rs := [4]) (by kernel_rfl) (by simp) ?_
   refine AllReadyH.cons rfl (fun K hK => ?_) ?_
   ·simp only [List.getElem_toArray, List.getElem_cons_zero, List.getElem_cons_succ]
    go_simp
    obtain ⟨V1, hV1⟩ : ∃ V9, V9 = V0.alloc (.cells #[.int .i64 x.st.tick, .int .i64 x.st.at_, .int .i64 x.st.what, .int .i64 x.st.arm, .int .i64 x.st.n, .int .i64 x.st.status] 26) := ⟨_, rfl⟩
    have R1 := hide (R0.out.alloc (.cells #[.int .i64 x.st.tick, .int .i64 x.st.at_, .int .i64 x.st.what, .int .i64 x.st.arm, .int .i64 x.st.n, .int .i64 x.st.status] 26))
    have I1 := hide (Blk.new V0 26 #[.int .i64 x.st.tick, .int .i64 x.st.at_, .int .i64 x.st.what, .int .i64 x.st.arm, .int .i64 x.st.n, .int .i64 x.st.status])
    rw [← hV1] at R1 I1 ⊢
    clear hV1
    refine hK.out _ _ R1.out.st (fun hHeld => ?_)
    clear hK K
    refine wpAnyH_ready (rs := [5]) (by kernel_rfl) (by simp) ?_
    refine AllReadyH.cons rfl (fun K hK => ?_) ?_
    ·refine step_append_rd V1 (by rfl) (.tmp 157) (.tmp 160) _ (by rfl) (w.heap.size + 1) 26 is _ 6 48 Tryz.underlying90 his hsz0 hsz1 hsz2 rfl (by omega) (.slice A3 f.steps.length c3) f.steps.length (flat encStp f.steps) (by rfl) R1.out.mid.os NoBlk (some ⟨V0.heap.size, 0, none⟩) 1 1 (encStp x.st) (by rfl) (rd_blkN I1.out (fun h => h)) rfl (encStp_one x.st) (by simp only [maxLen]; omega) (by omega) R1.out.le ?_
     intro v9 V2 hown2 hgr _
     obtain ⟨A6, c6, rfl, hc6⟩ := own_cap hown2
     have R2 := hide (R1.out.growS hgr hown2)
     clear hgr hown2
     refine hK.out _ _ R2.out.st (fun hHeld => ?_)
     clear hK K
     simp only [Act.put, List.setIfInBounds_toArray, List.set_cons_zero, List.set_cons_succ, List.getElem_toArray, List.getElem_cons_zero, List.getElem_cons_succ]
     have RS := R2
     refine wpAnyH_take (i := 9) (v := ?_) rfl (by kernel_rfl) (by kernel_rfl) (by kernel_rfl) (fun _ _ _ h => h) (Or.inl ⟨by rfl, ?_⟩) (by assumption) ?_
     rotate_left
     ·(intro w9 hS9; simp only [List.getElem_toArray, List.getElem_cons_zero, List.getElem_cons_succ]; go_simp <;> rfl)
     simp only [Act.put, List.setIfInBounds_toArray, List.set_cons_zero, List.set_cons_succ, List.getElem_toArray, List.getElem_cons_zero, List.getElem_cons_succ]
     refine wpAnyH_ready (rs := [10]) (by kernel_rfl) (by simp) ?_
     refine AllReadyH.cons rfl (fun K hK => ?_) ?_
     ·obtain ⟨⟨l0, l1, l2, l3, l4, l5, l6, l7, l8, l9⟩, m0, m1, m2, m3, m4, m5, m6, m7, m8, m9⟩ := RS.out.mid.blk.ten
      simp only [List.getElem_toArray, List.getElem_cons_zero, List.getElem_cons_succ]
      go_simp
      clear l0 l1 l2 l3 l4 l5 l6 l7 l8 l9 m0 m1 m2 m3 m4 m5 m6 m7 m8 m9
      refine hK.out _ _ (RS.out.set_ 5 (.slice A6 (f.steps.length + 1) c6)).st (fun hHeld => ?_)
      clear hK K
      refine wpAnyH_take (i := 11) (v := ?_) rfl (by kernel_rfl) (by kernel_rfl) (by kernel_rfl) (fun _ _ _ h => h) (Or.inl ⟨by rfl, ?_⟩) (by assumption) ?_
      rotate_left
      ·(intro w9 hS9; simp only [List.getElem_toArray, List.getElem_cons_zero, List.getElem_cons_succ]; go_simp <;> rfl)
      simp only [Act.put, List.setIfInBounds_toArray, List.set_cons_zero, List.set_cons_succ, List.getElem_toArray, List.getElem_cons_zero, List.getElem_cons_succ]
      refine wpAnyH_ready (rs := [12]) (by kernel_rfl) (by simp) ?_
      refine AllReadyH.cons rfl (fun K hK => ?_) ?_
      ·obtain ⟨⟨l0, l1, l2, l3, l4, l5, l6, l7, l8, l9⟩, m0, m1, m2, m3, m4, m5, m6, m7, m8, m9⟩ := RS.out.mid.blk.ten
       simp only [List.getElem_toArray, List.getElem_cons_zero, List.getElem_cons_succ]
       go_simp
       clear l0 l1 l2 l3 l4 l5 l6 l7 l8 l9 m0 m1 m2 m3 m4 m5 m6 m7 m8 m9
       refine hK.out _ _ ((RS.out.set_ 5 (.slice A6 (f.steps.length + 1) c6)).set_ 9 (.int .i64 x.st.status)).st (fun hHeld => ?_)
       clear hK K
       refine wpAnyH_done (by kernel_rfl) ?_ _
       clear hHeld
       go_wp2_with fail
       have hR2 := RS.out.put59 (.slice A6 (f.steps.length + 1) c6) x.st.status
       refine HN.out _ _ ⟨⟨_, _, _, _, _, _, _, _, _, _, _, _, _, _, _, _, _, _, _, _, _, _, _, _, _, _, _, _, _, _, _, _, _, _, _, _, _, _, _, _, _, _, _, _, _, _, _, _, _, _, _, _, _, _, _, _, _, _, _, _, _, _, _, _, _, _, _, _, _, _, _, _, _, _, _, _, _, _, _, _, _, _, _, _, _, _, _, _, _, _, _, _, _, _, _, _, _, _, _, _, _, _, _, _, _, _, _, _, _, _, _, _, _, _, _, _, _, _, _, _, _, _, _, _, _, _, _, _, _, _, _, _, _, _, _, _, _, _, _, _, _, _, _, _, _, _, _, _, _, _, _, _, _, _, _, _, _, _, _, ⟨k + 1, by omega, by go_num, hide (ofSt_some HF2.out hR2.bel hR2.zb (by rw [HA.out]; exact hR2.lifeS) hSm.out _)⟩, rfl⟩, ?_⟩
       simp [intOf]; omega
      exact AllReadyH.nil
     exact AllReadyH.nil
    exact AllReadyH.nil
   exact AllReadyH.nil
  refine AllReadyH.cons rfl (fun K hK => ?_) ?_
  ·simp only [List.getElem_toArray, List.getElem_cons_zero, List.getElem_cons_succ]
   go_simp
   obtain ⟨V1, hV1⟩ : ∃ V9, V9 = V0.alloc (.cells #[.int .i64 x.st.tick, .int .i64 x.st.at_, .int .i64 x.st.what, .int .i64 x.st.arm, .int .i64 x.st.n, .int .i64 x.st.status] 26) := ⟨_, rfl⟩
   have R1 := hide (R0.out.alloc (.cells #[.int .i64 x.st.tick, .int .i64 x.st.at_, .int .i64 x.st.what, .int .i64 x.st.arm, .int .i64 x.st.n, .int .i64 x.st.status] 26))
   have I1 := hide (Blk.new V0 26 #[.int .i64 x.st.tick, .int .i64 x.st.at_, .int .i64 x.st.what, .int .i64 x.st.arm, .int .i64 x.st.n, .int .i64 x.st.status])
   rw [← hV1] at R1 I1 ⊢
   clear hV1
   refine hK.out _ _ R1.out.st (fun hHeld => ?_)
   clear hK K
   refine wpAnyH_ready (rs := [1]) (by kernel_rfl) (by simp) ?_
   refine AllReadyH.cons rfl (fun K hK => ?_) ?_
   ·have y5 := R1.out.c5
    simp only [List.getElem_toArray, List.getElem_cons_zero, List.getElem_cons_succ]
    go_simp
    refine hK.out _ _ R1.out.st (fun hHeld => ?_)
    clear hK K y5
    refine wpAnyH_ready (rs := [5]) (by kernel_rfl) (by simp) ?_
    refine AllReadyH.cons rfl (fun K hK => ?_) ?_
    ·refine step_append_rd V1 (by rfl) (.tmp 157) (.tmp 160) _ (by rfl) (w.heap.size + 1) 26 is _ 6 48 Tryz.underlying90 his hsz0 hsz1 hsz2 rfl (by omega) (.slice A3 f.steps.length c3) f.steps.length (flat encStp f.steps) (by rfl) R1.out.mid.os NoBlk (some ⟨V0.heap.size, 0, none⟩) 1 1 (encStp x.st) (by rfl) (rd_blkN I1.out (fun h => h)) rfl (encStp_one x.st) (by simp only [maxLen]; omega) (by omega) R1.out.le ?_
     intro v9 V2 hown2 hgr _
     obtain ⟨A6, c6, rfl, hc6⟩ := own_cap hown2
     have R2 := hide (R1.out.growS hgr hown2)
     clear hgr hown2
     refine hK.out _ _ R2.out.st (fun hHeld => ?_)
     clear hK K
     simp only [Act.put, List.setIfInBounds_toArray, List.set_cons_zero, List.set_cons_succ, List.getElem_toArray, List.getElem_cons_zero, List.getElem_cons_succ]
     have RS := R2
     refine wpAnyH_take (i := 9) (v := ?_) rfl (by kernel_rfl) (by kernel_rfl) (by kernel_rfl) (fun _ _ _ h => h) (Or.inl ⟨by rfl, ?_⟩) (by assumption) ?_
     rotate_left
     ·(intro w9 hS9; simp only [List.getElem_toArray, List.getElem_cons_zero, List.getElem_cons_succ]; go_simp <;> rfl)
     simp only [Act.put, List.setIfInBounds_toArray, List.set_cons_zero, List.set_cons_succ, List.getElem_toArray, List.getElem_cons_zero, List.getElem_cons_succ]
     refine wpAnyH_ready (rs := [10]) (by kernel_rfl) (by simp) ?_
     refine AllReadyH.cons rfl (fun K hK => ?_) ?_
     ·obtain ⟨⟨l0, l1, l2, l3, l4, l5, l6, l7, l8, l9⟩, m0, m1, m2, m3, m4, m5, m6, m7, m8, m9⟩ := RS.out.mid.blk.ten
      simp only [List.getElem_toArray, List.getElem_cons_zero, List.getElem_cons_succ]
      go_simp
      clear l0 l1 l2 l3 l4 l5 l6 l7 l8 l9 m0 m1 m2 m3 m4 m5 m6 m7 m8 m9
      refine hK.out _ _ (RS.out.set_ 5 (.slice A6 (f.steps.length + 1) c6)).st (fun hHeld => ?_)
      clear hK K
      refine wpAnyH_take (i := 11) (v := ?_) rfl (by kernel_rfl) (by kernel_rfl) (by kernel_rfl) (fun _ _ _ h => h) (Or.inl ⟨by rfl, ?_⟩) (by assumption) ?_
      rotate_left
      ·(intro w9 hS9; simp only [List.getElem_toArray, List.getElem_cons_zero, List.getElem_cons_succ]; go_simp <;> rfl)
      simp only [Act.put, List.setIfInBounds_toArray, List.set_cons_zero, List.set_cons_succ, List.getElem_toArray, List.getElem_cons_zero, List.getElem_cons_succ]
      refine wpAnyH_ready (rs := [12]) (by kernel_rfl) (by simp) ?_
      refine AllReadyH.cons rfl (fun K hK => ?_) ?_
      ·obtain ⟨⟨l0, l1, l2, l3, l4, l5, l6, l7, l8, l9⟩, m0, m1, m2, m3, m4, m5, m6, m7, m8, m9⟩ := RS.out.mid.blk.ten
       simp only [List.getElem_toArray, List.getElem_cons_zero, List.getElem_cons_succ]
       go_simp
       clear l0 l1 l2 l3 l4 l5 l6 l7 l8 l9 m0 m1 m2 m3 m4 m5 m6 m7 m8 m9
       refine hK.out _ _ ((RS.out.set_ 5 (.slice A6 (f.steps.length + 1) c6)).set_ 9 (.int .i64 x.st.status)).st (fun hHeld => ?_)
       clear hK K
       refine wpAnyH_done (by kernel_rfl) ?_ _
       clear hHeld
       go_wp2_with fail
       have hR2 := RS.out.put59 (.slice A6 (f.steps.length + 1) c6) x.st.status
       refine HN.out _ _ ⟨⟨_, _, _, _, _, _, _, _, _, _, _, _, _, _, _, _, _, _, _, _, _, _, _, _, _, _, _, _, _, _, _, _, _, _, _, _, _, _, _, _, _, _, _, _, _, _, _, _, _, _, _, _, _, _, _, _, _, _, _, _, _, _, _, _, _, _, _, _, _, _, _, _, _, _, _, _, _, _, _, _, _, _, _, _, _, _, _, _, _, _, _, _, _, _, _, _, _, _, _, _, _, _, _, _, _, _, _, _, _, _, _, _, _, _, _, _, _, _, _, _, _, _, _, _, _, _, _, _, _, _, _, _, _, _, _, _, _, _, _, _, _, _, _, _, _, _, _, _, _, _, _, _, _, _, _, _, _, _, _, ⟨k + 1, by omega, by go_num, hide (ofSt_some HF2.out hR2.bel hR2.zb (by rw [HA.out]; exact hR2.lifeS) hSm.out _)⟩, rfl⟩, ?_⟩
       simp [intOf]; omega
      exact AllReadyH.nil
     exact AllReadyH.nil
    exact AllReadyH.nil
   exact AllReadyH.nil
  exact AllReadyH.nil
end Go.Proofs.YtdmdohjdmnmabaaGreat
