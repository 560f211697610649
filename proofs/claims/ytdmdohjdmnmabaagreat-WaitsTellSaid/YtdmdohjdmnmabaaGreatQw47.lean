/- The document's waits: three rows grow by one, in whatever order. Conditions: those of each theorem. -/
import Derived.Test.YtdmdohjdmnmabaaGreatQw45
namespace Go.Proofs.YtdmdohjdmnmabaaGreat
open Go.RowKit
set_option linter.unusedVariables false
set_option linter.unusedSimpArgs false

/-- the region of a number -/
def regionAt (i : Nat) : Code → Option (Array Oper)
 | .region j ops _ => if j = i then some ops else none
 | .seq a b => match regionAt i a with
  | some c => some c
  | none => regionAt i b
 | .cond _ a b => match regionAt i a with
  | some c => some c
  | none => regionAt i b
 | .block _ c => regionAt i c
 | .loop c => regionAt i c
 | .scope c => regionAt i c
 | _ => none
theorem one35 {x : Int} : ∀ u ∈ [Value.int .i64 x], u.oneCell' = true := by intro u hu; simp at hu; subst hu; rfl
set_option maxRecDepth 100000 in
set_option maxHeartbeats 25600000 in
theorem reg14 (ops : Array Oper) (hops : Tryz.f25.body.bind (regionAt 14) = some ops) (Q : Exit → Act → World → Prop) (W7 V1 : World) (av wv bv : Value) (xs ys zs : List Int) (k2 sl ld : Nat) (to_ st : Int) (xg sb so : Nat) (hl2 : k2 < sl) (hsl : sl ≤ 900)
 (hxl : xs.length ≤ 1000) (hyl : ys.length ≤ 1000) (hzl : zs.length ≤ 1000) (H1 : Hid (AWB W7 V1 av wv bv xs ys zs)) (HZ : Hid (∀ V, Below W7.heap.size W7 V → V.cell? ⟨xg, 5, none⟩ = some (.slice (some ⟨sb, so, none⟩) sl ld) ∧ V.cell? ⟨sb, so + k2 * 6, none⟩ = some (.int .i64 st)))
 (hQ : ∀ c (a : Act) d v w, Q (.panic c) (a.put d v) w → Q (.panic c) a w) (u0 u1 u2 u3 u4 u5 u6 u7 u9 u10 u16 u17 u18 u19 u20 u21 u22 u23 u24 u25 u26 u27 u28 u29 u30 u31 u32 u33 u34 u35 u36 u37 u38 u39 u40 u41 u42 u43 u44 u45 u46 u47 u48 u49 u50 u51 u52 u53 u54 u55 u56 u57 u58 u59 u60 u61 u62 u63 u64 u65 u66 u67 u68 u69 u70 u71 u72 u73 u74 u75 u76 u77 u78 u79 u80 u81 u82 u83 u84 u85 u86 u87 u88 u89 u90 u91 u92 u93 u94 u95 u96 u97 u98 u99 u100 u101 u102 u103 u104 u105 u106 u107 u108 u109 u110 u111 u112 u113 u114 u115 u116 u117 u118 u119 u120 u121 u122 u123 u124 u125 u126 u127 u128 u129 u130 u131 u132 u133 u134 u135 u136 u137 u138 u139 u140 u141 u142 u143 u144 u145 u146 u147 u148 u149 u150 u151 u152 u153 u154 u155 u156 u157 u158 u159 u160 u161 u162 u163 u164 u165 u166 u167 u168 u169 u170 u171 u172 u173 u174 u175 u176 u177 u178 u179 u180 u181 u182 u183 u184 u185 u186 u187 u188 u189 u190 u191 u192 u193 : Value)
 (hend : ∀ (v1 v2 v3 : Value) (V2 : World) (t84 t85 t86 t87 t88 t89 t90 t91 t92 t93 t94 t95 t96 t97 t98 t99 t100 t101 : Value), Hid (AWB W7 V2 v1 v2 v3 (xs ++ [to_]) (ys ++ [st]) (zs ++ [(k2 : Int) + 1])) → Q .normal { tmps := #[u0, u1, u2, u3, u4, u5, u6, u7, .pointer (some ⟨xg, 0, none⟩), u9, u10, v1, v2, v3, .int .i64 (k2 : Int), .int .i64 to_, u16, u17, u18, u19, u20, u21, u22, u23, u24, u25, u26, u27, u28, u29, u30, u31, u32, u33, u34, u35, u36, u37, u38, u39, u40, u41, u42, u43, u44, u45, u46, u47, u48, u49, u50, u51, u52, u53, u54, u55, u56, u57, u58, u59, u60, u61, u62, u63, u64, u65, u66, u67, u68, u69, u70, u71, u72, u73, u74, u75, u76, u77, u78, u79, u80, u81, u82, u83, t84, t85, t86, t87, t88, t89, t90, t91, t92, t93, t94, t95, t96, t97, t98, t99, t100, t101, u102, u103, u104, u105, u106, u107, u108, u109, u110, u111, u112, u113, u114, u115, u116, u117, u118, u119, u120, u121, u122, u123, u124, u125, u126, u127, u128, u129, u130, u131, u132, u133, u134, u135, u136, u137, u138, u139, u140, u141, u142, u143, u144, u145, u146, u147, u148, u149, u150, u151, u152, u153, u154, u155, u156, u157, u158, u159, u160, u161, u162, u163, u164, u165, u166, u167, u168, u169, u170, u171, u172, u173, u174, u175, u176, u177, u178, u179, u180, u181, u182, u183, u184, u185, u186, u187, u188, u189, u190, u191, u192, u193], defers := [] } V2) :
 (Code.region 14 ops true).wp Tryz.prog Q { tmps := #[u0, u1, u2, u3, u4, u5, u6, u7, .pointer (some ⟨xg, 0, none⟩), u9, u10, av, wv, bv, .int .i64 (k2 : Int), .int .i64 to_, u16, u17, u18, u19, u20, u21, u22, u23, u24, u25, u26, u27, u28, u29, u30, u31, u32, u33, u34, u35, u36, u37, u38, u39, u40, u41, u42, u43, u44, u45, u46, u47, u48, u49, u50, u51, u52, u53, u54, u55, u56, u57, u58, u59, u60, u61, u62, u63, u64, u65, u66, u67, u68, u69, u70, u71, u72, u73, u74, u75, u76, u77, u78, u79, u80, u81, u82, u83, u84, u85, u86, u87, u88, u89, u90, u91, u92, u93, u94, u95, u96, u97, u98, u99, u100, u101, u102, u103, u104, u105, u106, u107, u108, u109, u110, u111, u112, u113, u114, u115, u116, u117, u118, u119, u120, u121, u122, u123, u124, u125, u126, u127, u128, u129, u130, u131, u132, u133, u134, u135, u136, u137, u138, u139, u140, u141, u142, u143, u144, u145, u146, u147, u148, u149, u150, u151, u152, u153, u154, u155, u156, u157, u158, u159, u160, u161, u162, u163, u164, u165, u166, u167, u168, u169, u170, u171, u172, u173, u174, u175, u176, u177, u178, u179, u180, u181, u182, u183, u184, u185, u186, u187, u188, u189, u190, u191, u192, u193], defers := [] } V1 := by
 injection hops with hops
 subst hops
 obtain ⟨ii, hii, hiz0, hiz1, hiz2⟩ := info_parts Tryz.infoI35
 obtain ⟨ij, hij, hjz0, hjz1, hjz2⟩ := info_parts Tryz.infoL35
 have HQ0 := hide hQ
 have HEnd := hide hend
 have e3 : (0 : Int) ≤ (k2 : Int) := by omega
 have e4 : (k2 : Int) < (sl : Int) := by omega
 have w9 : IntKind.i64.wrap ((k2 : Int) + 1) = (k2 : Int) + 1 := IntWalk.i64_in _ (by omega)
 clear hQ hend
 obtain ⟨V0, hV0⟩ : ∃ V9, V9 = V1.drew := ⟨_, rfl⟩
 have H0 := hide (show AWB W7 V0 _ _ _ xs ys zs by rw [hV0]; exact H1.out.below (below_drew' (Below.refl _ _)))
 clear H1
 refine wp_region_held (S := fun w' => w'.cell? ⟨xg, 5, none⟩ = some (.slice (some ⟨sb, so, none⟩) sl ld) ∧ w'.cell? ⟨sb, so + k2 * 6, none⟩ = some (.int .i64 st)) (by kernel_rfl) ?_
 change wpAnyH _ _ _ _ _ _ _ _ V1.drew
 have hHeld : (fun w' => w'.cell? ⟨xg, 5, none⟩ = some (.slice (some ⟨sb, so, none⟩) sl ld) ∧ w'.cell? ⟨sb, so + k2 * 6, none⟩ = some (.int .i64 st)) V1.drew := (by rw [← hV0]; exact HZ.out V0 H0.out.o)
 rw [← hV0] at hHeld ⊢
 simp only [List.size_toArray, List.length_cons, List.length_nil, Nat.zero_add, Nat.reduceAdd]
 clear hV0
 refine wpAnyH_take (i := 0) (v := ?_) rfl (by kernel_rfl) (by kernel_rfl) (by kernel_rfl) (fun c a w h => HQ0.out c a _ _ w h) (Or.inl ⟨by rfl, ?_⟩) (by assumption) ?_
 rotate_left
 ·(intro w9 hS9; (try simp only [List.getElem_toArray, List.getElem_cons_zero, List.getElem_cons_succ]); go_simp <;> rfl)
 try simp only [Act.put, List.setIfInBounds_toArray, List.set_cons_zero, List.set_cons_succ, List.getElem_toArray, List.getElem_cons_zero, List.getElem_cons_succ]
 refine wpAnyH_take (i := 1) (v := ?_) rfl (by kernel_rfl) (by kernel_rfl) (by kernel_rfl) (fun c a w h => HQ0.out c a _ _ w h) (Or.inl ⟨by rfl, ?_⟩) (by assumption) ?_
 rotate_left
 ·(intro w9 hS9; (try simp only [List.getElem_toArray, List.getElem_cons_zero, List.getElem_cons_succ]); go_simp <;> rfl)
 try simp only [Act.put, List.setIfInBounds_toArray, List.set_cons_zero, List.set_cons_succ, List.getElem_toArray, List.getElem_cons_zero, List.getElem_cons_succ]
 refine wpAnyH_take (i := 4) (v := ?_) rfl (by kernel_rfl) (by kernel_rfl) (by kernel_rfl) (fun c a w h => HQ0.out c a _ _ w h) (Or.inl ⟨by rfl, ?_⟩) (by assumption) ?_
 rotate_left
 ·(intro w9 hS9; (try simp only [List.getElem_toArray, List.getElem_cons_zero, List.getElem_cons_succ]); go_simp <;> rfl)
 try simp only [Act.put, List.setIfInBounds_toArray, List.set_cons_zero, List.set_cons_succ, List.getElem_toArray, List.getElem_cons_zero, List.getElem_cons_succ]
 refine wpAnyH_take (i := 5) (v := ?_) rfl (by kernel_rfl) (by kernel_rfl) (by kernel_rfl) (fun c a w h => HQ0.out c a _ _ w h) (Or.inl ⟨by rfl, ?_⟩) (by assumption) ?_
 rotate_left
 ·(intro w9 hS9; (try simp only [List.getElem_toArray, List.getElem_cons_zero, List.getElem_cons_succ]); go_simp <;> rfl)
 try simp only [Act.put, List.setIfInBounds_toArray, List.set_cons_zero, List.set_cons_succ, List.getElem_toArray, List.getElem_cons_zero, List.getElem_cons_succ]
 refine wpAnyH_take (i := 6) (v := ?_) rfl (by kernel_rfl) (by kernel_rfl) (by kernel_rfl) (fun c a w h => HQ0.out c a _ _ w h) (Or.inl ⟨by rfl, ?_⟩) (by assumption) ?_
 rotate_left
 ·(intro w9 hS9; (try simp only [List.getElem_toArray, List.getElem_cons_zero, List.getElem_cons_succ]); go_simp <;> rfl)
 try simp only [Act.put, List.setIfInBounds_toArray, List.set_cons_zero, List.set_cons_succ, List.getElem_toArray, List.getElem_cons_zero, List.getElem_cons_succ]
 refine wpAnyH_take (i := 7) (v := ?_) rfl (by kernel_rfl) (by kernel_rfl) (by kernel_rfl) (fun c a w h => HQ0.out c a _ _ w h) (Or.inl ⟨by rfl, ?_⟩) (by assumption) ?_
 rotate_left
 ·(intro w9 hS9; (try simp only [List.getElem_toArray, List.getElem_cons_zero, List.getElem_cons_succ]); go_simp <;> rfl)
 try simp only [Act.put, List.setIfInBounds_toArray, List.set_cons_zero, List.set_cons_succ, List.getElem_toArray, List.getElem_cons_zero, List.getElem_cons_succ]
 refine wpAnyH_take (i := 8) (v := ?_) rfl (by kernel_rfl) (by kernel_rfl) (by kernel_rfl) (fun c a w h => HQ0.out c a _ _ w h) (Or.inl ⟨by rfl, ?_⟩) (by assumption) ?_
 rotate_left
 ·(intro w9 hS9; (try simp only [List.getElem_toArray, List.getElem_cons_zero, List.getElem_cons_succ]); go_simp <;> rfl)
 try simp only [Act.put, List.setIfInBounds_toArray, List.set_cons_zero, List.set_cons_succ, List.getElem_toArray, List.getElem_cons_zero, List.getElem_cons_succ]
 refine wpAnyH_take (i := 9) (v := ?_) rfl (by kernel_rfl) (by kernel_rfl) (by kernel_rfl) (fun c a w h => HQ0.out c a _ _ w h) (Or.inl ⟨by rfl, ?_⟩) (by assumption) ?_
 rotate_left
 ·(intro w9 hS9; (try simp only [List.getElem_toArray, List.getElem_cons_zero, List.getElem_cons_succ]); go_simp <;> rfl)
 try simp only [Act.put, List.setIfInBounds_toArray, List.set_cons_zero, List.set_cons_succ, List.getElem_toArray, List.getElem_cons_zero, List.getElem_cons_succ]
 refine wpAnyH_take (i := 10) (v := ?_) rfl (by kernel_rfl) (by kernel_rfl) (by kernel_rfl) (fun c a w h => HQ0.out c a _ _ w h) (Or.inl ⟨by rfl, ?_⟩) (by assumption) ?_
 rotate_left
 ·(intro w9 hS9; (try simp only [List.getElem_toArray, List.getElem_cons_zero, List.getElem_cons_succ]); go_simp <;> rfl)
 try simp only [Act.put, List.setIfInBounds_toArray, List.set_cons_zero, List.set_cons_succ, List.getElem_toArray, List.getElem_cons_zero, List.getElem_cons_succ]
 refine wpAnyH_take (i := 13) (v := ?_) rfl (by kernel_rfl) (by kernel_rfl) (by kernel_rfl) (fun c a w h => HQ0.out c a _ _ w h) (Or.inl ⟨by rfl, ?_⟩) (by assumption) ?_
 rotate_left
 ·(intro w9 hS9; (try simp only [List.getElem_toArray, List.getElem_cons_zero, List.getElem_cons_succ]); go_simp <;> rfl)
 try simp only [Act.put, List.setIfInBounds_toArray, List.set_cons_zero, List.set_cons_succ, List.getElem_toArray, List.getElem_cons_zero, List.getElem_cons_succ]
 refine wpAnyH_take (i := 14) (v := ?_) rfl (by kernel_rfl) (by kernel_rfl) (by kernel_rfl) (fun c a w h => HQ0.out c a _ _ w h) (Or.inl ⟨by rfl, ?_⟩) (by assumption) ?_
 rotate_left
 ·(intro w9 hS9; (try simp only [List.getElem_toArray, List.getElem_cons_zero, List.getElem_cons_succ]); go_simp <;> rfl)
 try simp only [Act.put, List.setIfInBounds_toArray, List.set_cons_zero, List.set_cons_succ, List.getElem_toArray, List.getElem_cons_zero, List.getElem_cons_succ]
 refine wpAnyH_take (i := 15) (v := ?_) rfl (by kernel_rfl) (by kernel_rfl) (by kernel_rfl) (fun c a w h => HQ0.out c a _ _ w h) (Or.inl ⟨by rfl, ?_⟩) (by assumption) ?_
 rotate_left
 ·(intro w9 hS9; (try simp only [List.getElem_toArray, List.getElem_cons_zero, List.getElem_cons_succ]); go_simp <;> rfl)
 try simp only [Act.put, List.setIfInBounds_toArray, List.set_cons_zero, List.set_cons_succ, List.getElem_toArray, List.getElem_cons_zero, List.getElem_cons_succ]
 refine rdy3 2 11 16 (by kernel_rfl) rfl rfl rfl (fun K hK => ?_) (fun K hK => ?_) (fun K hK => ?_)
 ·refine step_build1 rfl (.tmp 85) 86 3 rfl ii Tryz.underlying86 hii hiz0 hiz1 to_ (by rfl) ?_
  intro V1 g1 E B1 O
  have H1 := hide (H0.out.below O.out)
  clear E O
  refine hK.out _ _ (HZ.out _ H1.out.o) (fun hHeld => ?_)
  clear hK K
  try simp only [Act.put, List.setIfInBounds_toArray, List.set_cons_zero, List.set_cons_succ, List.getElem_toArray, List.getElem_cons_zero, List.getElem_cons_succ]
  refine rdy3 3 11 16 (by kernel_rfl) rfl rfl rfl (fun K hK => ?_) (fun K hK => ?_) (fun K hK => ?_)
  ·refine step_append_rd _ rfl (.tmp 84) (.tmp 86) _ rfl W7.heap.size 3 ii _ 1 8 Tryz.underlying86 hii hiz0 hiz1 hiz2 rfl (by omega) _ xs.length (flat encI xs) (by rfl) H1.out.a NoBlk (some ⟨g1, 0, none⟩) 1 1 [.int .i64 to_] (by rfl) (rd_blkN B1.out (fun h => h)) rfl one35 (by simp only [maxLen]; omega) (by omega) H1.out.o.size ?_
   intro v2 V2 hown hgr how
   have H2 := hide (H1.out.growA hgr hown how)
   clear hown hgr how
   refine hK.out _ _ (HZ.out _ H2.out.o) (fun hHeld => ?_)
   clear hK K
   try simp only [Act.put, List.setIfInBounds_toArray, List.set_cons_zero, List.set_cons_succ, List.getElem_toArray, List.getElem_cons_zero, List.getElem_cons_succ]
   refine rdy2 11 16 (by kernel_rfl) rfl rfl (fun K hK => ?_) (fun K hK => ?_)
   ·refine step_build1 rfl (.tmp 94) 103 2 rfl ij Tryz.underlying103 hij hjz0 hjz1 st (by rfl) ?_
    intro V3 g3 E B3 O
    have H3 := hide (H2.out.below O.out)
    clear E O
    refine hK.out _ _ (HZ.out _ H3.out.o) (fun hHeld => ?_)
    clear hK K
    try simp only [Act.put, List.setIfInBounds_toArray, List.set_cons_zero, List.set_cons_succ, List.getElem_toArray, List.getElem_cons_zero, List.getElem_cons_succ]
    refine rdy2 12 16 (by kernel_rfl) rfl rfl (fun K hK => ?_) (fun K hK => ?_)
    ·refine step_append_rd _ rfl (.tmp 88) (.tmp 95) _ rfl W7.heap.size 2 ij _ 1 8 Tryz.underlying103 hij hjz0 hjz1 hjz2 rfl (by omega) _ ys.length (flat encI ys) (by rfl) H3.out.w NoBlk (some ⟨g3, 0, none⟩) 1 1 [.int .i64 st] (by rfl) (rd_blkN B3.out (fun h => h)) rfl one35 (by simp only [maxLen]; omega) (by omega) H3.out.o.size ?_
     intro v4 V4 hown hgr how
     have H4 := hide (H3.out.growW hgr hown)
     clear hown hgr how
     refine hK.out _ _ (HZ.out _ H4.out.o) (fun hHeld => ?_)
     clear hK K
     try simp only [Act.put, List.setIfInBounds_toArray, List.set_cons_zero, List.set_cons_succ, List.getElem_toArray, List.getElem_cons_zero, List.getElem_cons_succ]
     refine rdy1 16 (by kernel_rfl) rfl (fun K hK => ?_)
     refine step_build1 rfl (.tmp 99) 86 3 rfl ii Tryz.underlying86 hii hiz0 hiz1 ((k2 : Int) + 1) (by rfl) ?_
     intro V5 g5 E B5 O
     have H5 := hide (H4.out.below O.out)
     clear E O
     refine hK.out _ _ (HZ.out _ H5.out.o) (fun hHeld => ?_)
     clear hK K
     try simp only [Act.put, List.setIfInBounds_toArray, List.set_cons_zero, List.set_cons_succ, List.getElem_toArray, List.getElem_cons_zero, List.getElem_cons_succ]
     refine rdy1 17 (by kernel_rfl) rfl (fun K hK => ?_)
     refine step_append_rd _ rfl (.tmp 97) (.tmp 100) _ rfl W7.heap.size 3 ii _ 1 8 Tryz.underlying86 hii hiz0 hiz1 hiz2 rfl (by omega) _ zs.length (flat encI zs) (by rfl) H5.out.b NoBlk (some ⟨g5, 0, none⟩) 1 1 [.int .i64 ((k2 : Int) + 1)] (by rfl) (rd_blkN B5.out (fun h => h)) rfl one35 (by simp only [maxLen]; omega) (by omega) H5.out.o.size ?_
     intro v6 V6 hown hgr how
     have H6 := hide (H5.out.growB hgr hown how)
     clear hown hgr how
     refine hK.out _ _ (HZ.out _ H6.out.o) (fun hHeld => ?_)
     clear hK K
     try simp only [Act.put, List.setIfInBounds_toArray, List.set_cons_zero, List.set_cons_succ, List.getElem_toArray, List.getElem_cons_zero, List.getElem_cons_succ]
     refine tkA 18 87 rfl rfl rfl (by kernel_rfl) (by kernel_rfl) (by kernel_rfl) (fun c a w h => HQ0.out c a _ _ w h) hHeld ?_
     refine tkA 19 96 rfl rfl rfl (by kernel_rfl) (by kernel_rfl) (by kernel_rfl) (fun c a w h => HQ0.out c a _ _ w h) hHeld ?_
     refine tkA 20 101 rfl rfl rfl (by kernel_rfl) (by kernel_rfl) (by kernel_rfl) (fun c a w h => HQ0.out c a _ _ w h) hHeld ?_
     refine wpAnyH_done (by kernel_rfl) ?_ _
     simp only [Act.put, Act.eval, List.setIfInBounds_toArray, List.set_cons_zero, List.set_cons_succ, List.getElem_toArray, List.getElem_cons_zero, List.getElem_cons_succ]
     exact HEnd.out _ _ _ _ _ _ _ _ _ _ _ _ _ _ _ _ _ _ _ _ _ _ H6
    ·refine step_build1 rfl (.tmp 99) 86 3 rfl ii Tryz.underlying86 hii hiz0 hiz1 ((k2 : Int) + 1) (by rfl) ?_
     intro V7 g7 E B7 O
     have H7 := hide (H3.out.below O.out)
     have T11_7 := hide (B3.out.below O.out)
     clear E O
     refine hK.out _ _ (HZ.out _ H7.out.o) (fun hHeld => ?_)
     clear hK K
     try simp only [Act.put, List.setIfInBounds_toArray, List.set_cons_zero, List.set_cons_succ, List.getElem_toArray, List.getElem_cons_zero, List.getElem_cons_succ]
     refine rdy1 12 (by kernel_rfl) rfl (fun K hK => ?_)
     refine step_append_rd _ rfl (.tmp 88) (.tmp 95) _ rfl W7.heap.size 2 ij _ 1 8 Tryz.underlying103 hij hjz0 hjz1 hjz2 rfl (by omega) _ ys.length (flat encI ys) (by rfl) H7.out.w NoBlk (some ⟨g3, 0, none⟩) 1 1 [.int .i64 st] (by rfl) (rd_blkN T11_7.out (fun h => h)) rfl one35 (by simp only [maxLen]; omega) (by omega) H7.out.o.size ?_
     intro v8 V8 hown hgr how
     have H8 := hide (H7.out.growW hgr hown)
     have T16_8 := hide (B7.out.grown H7.out.w (by decide) hgr)
     clear hown hgr how
     refine hK.out _ _ (HZ.out _ H8.out.o) (fun hHeld => ?_)
     clear hK K
     try simp only [Act.put, List.setIfInBounds_toArray, List.set_cons_zero, List.set_cons_succ, List.getElem_toArray, List.getElem_cons_zero, List.getElem_cons_succ]
     refine rdy1 17 (by kernel_rfl) rfl (fun K hK => ?_)
     refine step_append_rd _ rfl (.tmp 97) (.tmp 100) _ rfl W7.heap.size 3 ii _ 1 8 Tryz.underlying86 hii hiz0 hiz1 hiz2 rfl (by omega) _ zs.length (flat encI zs) (by rfl) H8.out.b NoBlk (some ⟨g7, 0, none⟩) 1 1 [.int .i64 ((k2 : Int) + 1)] (by rfl) (rd_blkN T16_8.out (fun h => h)) rfl one35 (by simp only [maxLen]; omega) (by omega) H8.out.o.size ?_
     intro v9 V9 hown hgr how
     have H9 := hide (H8.out.growB hgr hown how)
     clear hown hgr how
     refine hK.out _ _ (HZ.out _ H9.out.o) (fun hHeld => ?_)
     clear hK K
     try simp only [Act.put, List.setIfInBounds_toArray, List.set_cons_zero, List.set_cons_succ, List.getElem_toArray, List.getElem_cons_zero, List.getElem_cons_succ]
     refine tkA 18 87 rfl rfl rfl (by kernel_rfl) (by kernel_rfl) (by kernel_rfl) (fun c a w h => HQ0.out c a _ _ w h) hHeld ?_
     refine tkA 19 96 rfl rfl rfl (by kernel_rfl) (by kernel_rfl) (by kernel_rfl) (fun c a w h => HQ0.out c a _ _ w h) hHeld ?_
     refine tkA 20 101 rfl rfl rfl (by kernel_rfl) (by kernel_rfl) (by kernel_rfl) (fun c a w h => HQ0.out c a _ _ w h) hHeld ?_
     refine wpAnyH_done (by kernel_rfl) ?_ _
     simp only [Act.put, Act.eval, List.setIfInBounds_toArray, List.set_cons_zero, List.set_cons_succ, List.getElem_toArray, List.getElem_cons_zero, List.getElem_cons_succ]
     exact HEnd.out _ _ _ _ _ _ _ _ _ _ _ _ _ _ _ _ _ _ _ _ _ _ H9
   ·refine step_build1 rfl (.tmp 99) 86 3 rfl ii Tryz.underlying86 hii hiz0 hiz1 ((k2 : Int) + 1) (by rfl) ?_
    intro V10 g10 E B10 O
    have H10 := hide (H2.out.below O.out)
    clear E O
    refine hK.out _ _ (HZ.out _ H10.out.o) (fun hHeld => ?_)
    clear hK K
    try simp only [Act.put, List.setIfInBounds_toArray, List.set_cons_zero, List.set_cons_succ, List.getElem_toArray, List.getElem_cons_zero, List.getElem_cons_succ]
    refine rdy1 11 (by kernel_rfl) rfl (fun K hK => ?_)
    refine step_build1 rfl (.tmp 94) 103 2 rfl ij Tryz.underlying103 hij hjz0 hjz1 st (by rfl) ?_
    intro V11 g11 E B11 O
    have H11 := hide (H10.out.below O.out)
    have T16_11 := hide (B10.out.below O.out)
    clear E O
    refine hK.out _ _ (HZ.out _ H11.out.o) (fun hHeld => ?_)
    clear hK K
    try simp only [Act.put, List.setIfInBounds_toArray, List.set_cons_zero, List.set_cons_succ, List.getElem_toArray, List.getElem_cons_zero, List.getElem_cons_succ]
    refine rdy1 12 (by kernel_rfl) rfl (fun K hK => ?_)
    refine step_append_rd _ rfl (.tmp 88) (.tmp 95) _ rfl W7.heap.size 2 ij _ 1 8 Tryz.underlying103 hij hjz0 hjz1 hjz2 rfl (by omega) _ ys.length (flat encI ys) (by rfl) H11.out.w NoBlk (some ⟨g11, 0, none⟩) 1 1 [.int .i64 st] (by rfl) (rd_blkN B11.out (fun h => h)) rfl one35 (by simp only [maxLen]; omega) (by omega) H11.out.o.size ?_
    intro v12 V12 hown hgr how
    have H12 := hide (H11.out.growW hgr hown)
    have T16_12 := hide (T16_11.out.grown H11.out.w (by decide) hgr)
    clear hown hgr how
    refine hK.out _ _ (HZ.out _ H12.out.o) (fun hHeld => ?_)
    clear hK K
    try simp only [Act.put, List.setIfInBounds_toArray, List.set_cons_zero, List.set_cons_succ, List.getElem_toArray, List.getElem_cons_zero, List.getElem_cons_succ]
    refine rdy1 17 (by kernel_rfl) rfl (fun K hK => ?_)
    refine step_append_rd _ rfl (.tmp 97) (.tmp 100) _ rfl W7.heap.size 3 ii _ 1 8 Tryz.underlying86 hii hiz0 hiz1 hiz2 rfl (by omega) _ zs.length (flat encI zs) (by rfl) H12.out.b NoBlk (some ⟨g10, 0, none⟩) 1 1 [.int .i64 ((k2 : Int) + 1)] (by rfl) (rd_blkN T16_12.out (fun h => h)) rfl one35 (by simp only [maxLen]; omega) (by omega) H12.out.o.size ?_
    intro v13 V13 hown hgr how
    have H13 := hide (H12.out.growB hgr hown how)
    clear hown hgr how
    refine hK.out _ _ (HZ.out _ H13.out.o) (fun hHeld => ?_)
    clear hK K
    try simp only [Act.put, List.setIfInBounds_toArray, List.set_cons_zero, List.set_cons_succ, List.getElem_toArray, List.getElem_cons_zero, List.getElem_cons_succ]
    refine tkA 18 87 rfl rfl rfl (by kernel_rfl) (by kernel_rfl) (by kernel_rfl) (fun c a w h => HQ0.out c a _ _ w h) hHeld ?_
    refine tkA 19 96 rfl rfl rfl (by kernel_rfl) (by kernel_rfl) (by kernel_rfl) (fun c a w h => HQ0.out c a _ _ w h) hHeld ?_
    refine tkA 20 101 rfl rfl rfl (by kernel_rfl) (by kernel_rfl) (by kernel_rfl) (fun c a w h => HQ0.out c a _ _ w h) hHeld ?_
    refine wpAnyH_done (by kernel_rfl) ?_ _
    simp only [Act.put, Act.eval, List.setIfInBounds_toArray, List.set_cons_zero, List.set_cons_succ, List.getElem_toArray, List.getElem_cons_zero, List.getElem_cons_succ]
    exact HEnd.out _ _ _ _ _ _ _ _ _ _ _ _ _ _ _ _ _ _ _ _ _ _ H13
  ·refine step_build1 rfl (.tmp 94) 103 2 rfl ij Tryz.underlying103 hij hjz0 hjz1 st (by rfl) ?_
   intro V14 g14 E B14 O
   have H14 := hide (H1.out.below O.out)
   have T2_14 := hide (B1.out.below O.out)
   clear E O
   refine hK.out _ _ (HZ.out _ H14.out.o) (fun hHeld => ?_)
   clear hK K
   try simp only [Act.put, List.setIfInBounds_toArray, List.set_cons_zero, List.set_cons_succ, List.getElem_toArray, List.getElem_cons_zero, List.getElem_cons_succ]
   refine rdy2 3 16 (by kernel_rfl) rfl rfl (fun K hK => ?_) (fun K hK => ?_)
   ·refine step_append_rd _ rfl (.tmp 84) (.tmp 86) _ rfl W7.heap.size 3 ii _ 1 8 Tryz.underlying86 hii hiz0 hiz1 hiz2 rfl (by omega) _ xs.length (flat encI xs) (by rfl) H14.out.a NoBlk (some ⟨g1, 0, none⟩) 1 1 [.int .i64 to_] (by rfl) (rd_blkN T2_14.out (fun h => h)) rfl one35 (by simp only [maxLen]; omega) (by omega) H14.out.o.size ?_
    intro v15 V15 hown hgr how
    have H15 := hide (H14.out.growA hgr hown how)
    have T11_15 := hide (B14.out.grown H14.out.a (by decide) hgr)
    clear hown hgr how
    refine hK.out _ _ (HZ.out _ H15.out.o) (fun hHeld => ?_)
    clear hK K
    try simp only [Act.put, List.setIfInBounds_toArray, List.set_cons_zero, List.set_cons_succ, List.getElem_toArray, List.getElem_cons_zero, List.getElem_cons_succ]
    refine rdy2 12 16 (by kernel_rfl) rfl rfl (fun K hK => ?_) (fun K hK => ?_)
    ·refine step_append_rd _ rfl (.tmp 88) (.tmp 95) _ rfl W7.heap.size 2 ij _ 1 8 Tryz.underlying103 hij hjz0 hjz1 hjz2 rfl (by omega) _ ys.length (flat encI ys) (by rfl) H15.out.w NoBlk (some ⟨g14, 0, none⟩) 1 1 [.int .i64 st] (by rfl) (rd_blkN T11_15.out (fun h => h)) rfl one35 (by simp only [maxLen]; omega) (by omega) H15.out.o.size ?_
     intro v16 V16 hown hgr how
     have H16 := hide (H15.out.growW hgr hown)
     clear hown hgr how
     refine hK.out _ _ (HZ.out _ H16.out.o) (fun hHeld => ?_)
     clear hK K
     try simp only [Act.put, List.setIfInBounds_toArray, List.set_cons_zero, List.set_cons_succ, List.getElem_toArray, List.getElem_cons_zero, List.getElem_cons_succ]
     refine rdy1 16 (by kernel_rfl) rfl (fun K hK => ?_)
     refine step_build1 rfl (.tmp 99) 86 3 rfl ii Tryz.underlying86 hii hiz0 hiz1 ((k2 : Int) + 1) (by rfl) ?_
     intro V17 g17 E B17 O
     have H17 := hide (H16.out.below O.out)
     clear E O
     refine hK.out _ _ (HZ.out _ H17.out.o) (fun hHeld => ?_)
     clear hK K
     try simp only [Act.put, List.setIfInBounds_toArray, List.set_cons_zero, List.set_cons_succ, List.getElem_toArray, List.getElem_cons_zero, List.getElem_cons_succ]
     refine rdy1 17 (by kernel_rfl) rfl (fun K hK => ?_)
     refine step_append_rd _ rfl (.tmp 97) (.tmp 100) _ rfl W7.heap.size 3 ii _ 1 8 Tryz.underlying86 hii hiz0 hiz1 hiz2 rfl (by omega) _ zs.length (flat encI zs) (by rfl) H17.out.b NoBlk (some ⟨g17, 0, none⟩) 1 1 [.int .i64 ((k2 : Int) + 1)] (by rfl) (rd_blkN B17.out (fun h => h)) rfl one35 (by simp only [maxLen]; omega) (by omega) H17.out.o.size ?_
     intro v18 V18 hown hgr how
     have H18 := hide (H17.out.growB hgr hown how)
     clear hown hgr how
     refine hK.out _ _ (HZ.out _ H18.out.o) (fun hHeld => ?_)
     clear hK K
     try simp only [Act.put, List.setIfInBounds_toArray, List.set_cons_zero, List.set_cons_succ, List.getElem_toArray, List.getElem_cons_zero, List.getElem_cons_succ]
     refine tkA 18 87 rfl rfl rfl (by kernel_rfl) (by kernel_rfl) (by kernel_rfl) (fun c a w h => HQ0.out c a _ _ w h) hHeld ?_
     refine tkA 19 96 rfl rfl rfl (by kernel_rfl) (by kernel_rfl) (by kernel_rfl) (fun c a w h => HQ0.out c a _ _ w h) hHeld ?_
     refine tkA 20 101 rfl rfl rfl (by kernel_rfl) (by kernel_rfl) (by kernel_rfl) (fun c a w h => HQ0.out c a _ _ w h) hHeld ?_
     refine wpAnyH_done (by kernel_rfl) ?_ _
     simp only [Act.put, Act.eval, List.setIfInBounds_toArray, List.set_cons_zero, List.set_cons_succ, List.getElem_toArray, List.getElem_cons_zero, List.getElem_cons_succ]
     exact HEnd.out _ _ _ _ _ _ _ _ _ _ _ _ _ _ _ _ _ _ _ _ _ _ H18
    ·refine step_build1 rfl (.tmp 99) 86 3 rfl ii Tryz.underlying86 hii hiz0 hiz1 ((k2 : Int) + 1) (by rfl) ?_
     intro V19 g19 E B19 O
     have H19 := hide (H15.out.below O.out)
     have T11_19 := hide (T11_15.out.below O.out)
     clear E O
     refine hK.out _ _ (HZ.out _ H19.out.o) (fun hHeld => ?_)
     clear hK K
     try simp only [Act.put, List.setIfInBounds_toArray, List.set_cons_zero, List.set_cons_succ, List.getElem_toArray, List.getElem_cons_zero, List.getElem_cons_succ]
     refine rdy1 12 (by kernel_rfl) rfl (fun K hK => ?_)
     refine step_append_rd _ rfl (.tmp 88) (.tmp 95) _ rfl W7.heap.size 2 ij _ 1 8 Tryz.underlying103 hij hjz0 hjz1 hjz2 rfl (by omega) _ ys.length (flat encI ys) (by rfl) H19.out.w NoBlk (some ⟨g14, 0, none⟩) 1 1 [.int .i64 st] (by rfl) (rd_blkN T11_19.out (fun h => h)) rfl one35 (by simp only [maxLen]; omega) (by omega) H19.out.o.size ?_
     intro v20 V20 hown hgr how
     have H20 := hide (H19.out.growW hgr hown)
     have T16_20 := hide (B19.out.grown H19.out.w (by decide) hgr)
     clear hown hgr how
     refine hK.out _ _ (HZ.out _ H20.out.o) (fun hHeld => ?_)
     clear hK K
     try simp only [Act.put, List.setIfInBounds_toArray, List.set_cons_zero, List.set_cons_succ, List.getElem_toArray, List.getElem_cons_zero, List.getElem_cons_succ]
     refine rdy1 17 (by kernel_rfl) rfl (fun K hK => ?_)
     refine step_append_rd _ rfl (.tmp 97) (.tmp 100) _ rfl W7.heap.size 3 ii _ 1 8 Tryz.underlying86 hii hiz0 hiz1 hiz2 rfl (by omega) _ zs.length (flat encI zs) (by rfl) H20.out.b NoBlk (some ⟨g19, 0, none⟩) 1 1 [.int .i64 ((k2 : Int) + 1)] (by rfl) (rd_blkN T16_20.out (fun h => h)) rfl one35 (by simp only [maxLen]; omega) (by omega) H20.out.o.size ?_
     intro v21 V21 hown hgr how
     have H21 := hide (H20.out.growB hgr hown how)
     clear hown hgr how
     refine hK.out _ _ (HZ.out _ H21.out.o) (fun hHeld => ?_)
     clear hK K
     try simp only [Act.put, List.setIfInBounds_toArray, List.set_cons_zero, List.set_cons_succ, List.getElem_toArray, List.getElem_cons_zero, List.getElem_cons_succ]
     refine tkA 18 87 rfl rfl rfl (by kernel_rfl) (by kernel_rfl) (by kernel_rfl) (fun c a w h => HQ0.out c a _ _ w h) hHeld ?_
     refine tkA 19 96 rfl rfl rfl (by kernel_rfl) (by kernel_rfl) (by kernel_rfl) (fun c a w h => HQ0.out c a _ _ w h) hHeld ?_
     refine tkA 20 101 rfl rfl rfl (by kernel_rfl) (by kernel_rfl) (by kernel_rfl) (fun c a w h => HQ0.out c a _ _ w h) hHeld ?_
     refine wpAnyH_done (by kernel_rfl) ?_ _
     simp only [Act.put, Act.eval, List.setIfInBounds_toArray, List.set_cons_zero, List.set_cons_succ, List.getElem_toArray, List.getElem_cons_zero, List.getElem_cons_succ]
     exact HEnd.out _ _ _ _ _ _ _ _ _ _ _ _ _ _ _ _ _ _ _ _ _ _ H21
   ·refine step_build1 rfl (.tmp 99) 86 3 rfl ii Tryz.underlying86 hii hiz0 hiz1 ((k2 : Int) + 1) (by rfl) ?_
    intro V22 g22 E B22 O
    have H22 := hide (H14.out.below O.out)
    have T2_22 := hide (T2_14.out.below O.out)
    have T11_22 := hide (B14.out.below O.out)
    have N22 := hide (show ∀ k, Value.ownBlock _ = some k → k ≠ g22 from fun k hk => by have := own_ltF H14.out.a k hk; have := E.out; omega)
    clear E O
    refine hK.out _ _ (HZ.out _ H22.out.o) (fun hHeld => ?_)
    clear hK K
    try simp only [Act.put, List.setIfInBounds_toArray, List.set_cons_zero, List.set_cons_succ, List.getElem_toArray, List.getElem_cons_zero, List.getElem_cons_succ]
    refine rdy1 3 (by kernel_rfl) rfl (fun K hK => ?_)
    refine step_append_rd _ rfl (.tmp 84) (.tmp 86) _ rfl W7.heap.size 3 ii _ 1 8 Tryz.underlying86 hii hiz0 hiz1 hiz2 rfl (by omega) _ xs.length (flat encI xs) (by rfl) H22.out.a NoBlk (some ⟨g1, 0, none⟩) 1 1 [.int .i64 to_] (by rfl) (rd_blkN T2_22.out (fun h => h)) rfl one35 (by simp only [maxLen]; omega) (by omega) H22.out.o.size ?_
    intro v23 V23 hown hgr how
    have H23 := hide (H22.out.growA hgr hown how)
    have T11_23 := hide (T11_22.out.grown H22.out.a (by decide) hgr)
    have T16_23 := hide (B22.out.beside N22.out hgr)
    clear hown hgr how
    refine hK.out _ _ (HZ.out _ H23.out.o) (fun hHeld => ?_)
    clear hK K
    try simp only [Act.put, List.setIfInBounds_toArray, List.set_cons_zero, List.set_cons_succ, List.getElem_toArray, List.getElem_cons_zero, List.getElem_cons_succ]
    refine rdy1 12 (by kernel_rfl) rfl (fun K hK => ?_)
    refine step_append_rd _ rfl (.tmp 88) (.tmp 95) _ rfl W7.heap.size 2 ij _ 1 8 Tryz.underlying103 hij hjz0 hjz1 hjz2 rfl (by omega) _ ys.length (flat encI ys) (by rfl) H23.out.w NoBlk (some ⟨g14, 0, none⟩) 1 1 [.int .i64 st] (by rfl) (rd_blkN T11_23.out (fun h => h)) rfl one35 (by simp only [maxLen]; omega) (by omega) H23.out.o.size ?_
    intro v24 V24 hown hgr how
    have H24 := hide (H23.out.growW hgr hown)
    have T16_24 := hide (T16_23.out.grown H23.out.w (by decide) hgr)
    clear hown hgr how
    refine hK.out _ _ (HZ.out _ H24.out.o) (fun hHeld => ?_)
    clear hK K
    try simp only [Act.put, List.setIfInBounds_toArray, List.set_cons_zero, List.set_cons_succ, List.getElem_toArray, List.getElem_cons_zero, List.getElem_cons_succ]
    refine rdy1 17 (by kernel_rfl) rfl (fun K hK => ?_)
    refine step_append_rd _ rfl (.tmp 97) (.tmp 100) _ rfl W7.heap.size 3 ii _ 1 8 Tryz.underlying86 hii hiz0 hiz1 hiz2 rfl (by omega) _ zs.length (flat encI zs) (by rfl) H24.out.b NoBlk (some ⟨g22, 0, none⟩) 1 1 [.int .i64 ((k2 : Int) + 1)] (by rfl) (rd_blkN T16_24.out (fun h => h)) rfl one35 (by simp only [maxLen]; omega) (by omega) H24.out.o.size ?_
    intro v25 V25 hown hgr how
    have H25 := hide (H24.out.growB hgr hown how)
    clear hown hgr how
    refine hK.out _ _ (HZ.out _ H25.out.o) (fun hHeld => ?_)
    clear hK K
    try simp only [Act.put, List.setIfInBounds_toArray, List.set_cons_zero, List.set_cons_succ, List.getElem_toArray, List.getElem_cons_zero, List.getElem_cons_succ]
    refine tkA 18 87 rfl rfl rfl (by kernel_rfl) (by kernel_rfl) (by kernel_rfl) (fun c a w h => HQ0.out c a _ _ w h) hHeld ?_
    refine tkA 19 96 rfl rfl rfl (by kernel_rfl) (by kernel_rfl) (by kernel_rfl) (fun c a w h => HQ0.out c a _ _ w h) hHeld ?_
    refine tkA 20 101 rfl rfl rfl (by kernel_rfl) (by kernel_rfl) (by kernel_rfl) (fun c a w h => HQ0.out c a _ _ w h) hHeld ?_
    refine wpAnyH_done (by kernel_rfl) ?_ _
    simp only [Act.put, Act.eval, List.setIfInBounds_toArray, List.set_cons_zero, List.set_cons_succ, List.getElem_toArray, List.getElem_cons_zero, List.getElem_cons_succ]
    exact HEnd.out _ _ _ _ _ _ _ _ _ _ _ _ _ _ _ _ _ _ _ _ _ _ H25
  ·refine step_build1 rfl (.tmp 99) 86 3 rfl ii Tryz.underlying86 hii hiz0 hiz1 ((k2 : Int) + 1) (by rfl) ?_
   intro V26 g26 E B26 O
   have H26 := hide (H1.out.below O.out)
   have T2_26 := hide (B1.out.below O.out)
   have N26 := hide (show ∀ k, Value.ownBlock _ = some k → k ≠ g26 from fun k hk => by have := own_ltF H1.out.a k hk; have := E.out; omega)
   clear E O
   refine hK.out _ _ (HZ.out _ H26.out.o) (fun hHeld => ?_)
   clear hK K
   try simp only [Act.put, List.setIfInBounds_toArray, List.set_cons_zero, List.set_cons_succ, List.getElem_toArray, List.getElem_cons_zero, List.getElem_cons_succ]
   refine rdy2 3 11 (by kernel_rfl) rfl rfl (fun K hK => ?_) (fun K hK => ?_)
   ·refine step_append_rd _ rfl (.tmp 84) (.tmp 86) _ rfl W7.heap.size 3 ii _ 1 8 Tryz.underlying86 hii hiz0 hiz1 hiz2 rfl (by omega) _ xs.length (flat encI xs) (by rfl) H26.out.a NoBlk (some ⟨g1, 0, none⟩) 1 1 [.int .i64 to_] (by rfl) (rd_blkN T2_26.out (fun h => h)) rfl one35 (by simp only [maxLen]; omega) (by omega) H26.out.o.size ?_
    intro v27 V27 hown hgr how
    have H27 := hide (H26.out.growA hgr hown how)
    have T16_27 := hide (B26.out.beside N26.out hgr)
    clear hown hgr how
    refine hK.out _ _ (HZ.out _ H27.out.o) (fun hHeld => ?_)
    clear hK K
    try simp only [Act.put, List.setIfInBounds_toArray, List.set_cons_zero, List.set_cons_succ, List.getElem_toArray, List.getElem_cons_zero, List.getElem_cons_succ]
    refine rdy1 11 (by kernel_rfl) rfl (fun K hK => ?_)
    refine step_build1 rfl (.tmp 94) 103 2 rfl ij Tryz.underlying103 hij hjz0 hjz1 st (by rfl) ?_
    intro V28 g28 E B28 O
    have H28 := hide (H27.out.below O.out)
    have T16_28 := hide (T16_27.out.below O.out)
    clear E O
    refine hK.out _ _ (HZ.out _ H28.out.o) (fun hHeld => ?_)
    clear hK K
    try simp only [Act.put, List.setIfInBounds_toArray, List.set_cons_zero, List.set_cons_succ, List.getElem_toArray, List.getElem_cons_zero, List.getElem_cons_succ]
    refine rdy1 12 (by kernel_rfl) rfl (fun K hK => ?_)
    refine step_append_rd _ rfl (.tmp 88) (.tmp 95) _ rfl W7.heap.size 2 ij _ 1 8 Tryz.underlying103 hij hjz0 hjz1 hjz2 rfl (by omega) _ ys.length (flat encI ys) (by rfl) H28.out.w NoBlk (some ⟨g28, 0, none⟩) 1 1 [.int .i64 st] (by rfl) (rd_blkN B28.out (fun h => h)) rfl one35 (by simp only [maxLen]; omega) (by omega) H28.out.o.size ?_
    intro v29 V29 hown hgr how
    have H29 := hide (H28.out.growW hgr hown)
    have T16_29 := hide (T16_28.out.grown H28.out.w (by decide) hgr)
    clear hown hgr how
    refine hK.out _ _ (HZ.out _ H29.out.o) (fun hHeld => ?_)
    clear hK K
    try simp only [Act.put, List.setIfInBounds_toArray, List.set_cons_zero, List.set_cons_succ, List.getElem_toArray, List.getElem_cons_zero, List.getElem_cons_succ]
    refine rdy1 17 (by kernel_rfl) rfl (fun K hK => ?_)
    refine step_append_rd _ rfl (.tmp 97) (.tmp 100) _ rfl W7.heap.size 3 ii _ 1 8 Tryz.underlying86 hii hiz0 hiz1 hiz2 rfl (by omega) _ zs.length (flat encI zs) (by rfl) H29.out.b NoBlk (some ⟨g26, 0, none⟩) 1 1 [.int .i64 ((k2 : Int) + 1)] (by rfl) (rd_blkN T16_29.out (fun h => h)) rfl one35 (by simp only [maxLen]; omega) (by omega) H29.out.o.size ?_
    intro v30 V30 hown hgr how
    have H30 := hide (H29.out.growB hgr hown how)
    clear hown hgr how
    refine hK.out _ _ (HZ.out _ H30.out.o) (fun hHeld => ?_)
    clear hK K
    try simp only [Act.put, List.setIfInBounds_toArray, List.set_cons_zero, List.set_cons_succ, List.getElem_toArray, List.getElem_cons_zero, List.getElem_cons_succ]
    refine tkA 18 87 rfl rfl rfl (by kernel_rfl) (by kernel_rfl) (by kernel_rfl) (fun c a w h => HQ0.out c a _ _ w h) hHeld ?_
    refine tkA 19 96 rfl rfl rfl (by kernel_rfl) (by kernel_rfl) (by kernel_rfl) (fun c a w h => HQ0.out c a _ _ w h) hHeld ?_
    refine tkA 20 101 rfl rfl rfl (by kernel_rfl) (by kernel_rfl) (by kernel_rfl) (fun c a w h => HQ0.out c a _ _ w h) hHeld ?_
    refine wpAnyH_done (by kernel_rfl) ?_ _
    simp only [Act.put, Act.eval, List.setIfInBounds_toArray, List.set_cons_zero, List.set_cons_succ, List.getElem_toArray, List.getElem_cons_zero, List.getElem_cons_succ]
    exact HEnd.out _ _ _ _ _ _ _ _ _ _ _ _ _ _ _ _ _ _ _ _ _ _ H30
   ·refine step_build1 rfl (.tmp 94) 103 2 rfl ij Tryz.underlying103 hij hjz0 hjz1 st (by rfl) ?_
    intro V31 g31 E B31 O
    have H31 := hide (H26.out.below O.out)
    have T2_31 := hide (T2_26.out.below O.out)
    have T16_31 := hide (B26.out.below O.out)
    clear E O
    refine hK.out _ _ (HZ.out _ H31.out.o) (fun hHeld => ?_)
    clear hK K
    try simp only [Act.put, List.setIfInBounds_toArray, List.set_cons_zero, List.set_cons_succ, List.getElem_toArray, List.getElem_cons_zero, List.getElem_cons_succ]
    refine rdy1 3 (by kernel_rfl) rfl (fun K hK => ?_)
    refine step_append_rd _ rfl (.tmp 84) (.tmp 86) _ rfl W7.heap.size 3 ii _ 1 8 Tryz.underlying86 hii hiz0 hiz1 hiz2 rfl (by omega) _ xs.length (flat encI xs) (by rfl) H31.out.a NoBlk (some ⟨g1, 0, none⟩) 1 1 [.int .i64 to_] (by rfl) (rd_blkN T2_31.out (fun h => h)) rfl one35 (by simp only [maxLen]; omega) (by omega) H31.out.o.size ?_
    intro v32 V32 hown hgr how
    have H32 := hide (H31.out.growA hgr hown how)
    have T16_32 := hide (T16_31.out.beside N26.out hgr)
    have T11_32 := hide (B31.out.grown H31.out.a (by decide) hgr)
    clear hown hgr how
    refine hK.out _ _ (HZ.out _ H32.out.o) (fun hHeld => ?_)
    clear hK K
    try simp only [Act.put, List.setIfInBounds_toArray, List.set_cons_zero, List.set_cons_succ, List.getElem_toArray, List.getElem_cons_zero, List.getElem_cons_succ]
    refine rdy1 12 (by kernel_rfl) rfl (fun K hK => ?_)
    refine step_append_rd _ rfl (.tmp 88) (.tmp 95) _ rfl W7.heap.size 2 ij _ 1 8 Tryz.underlying103 hij hjz0 hjz1 hjz2 rfl (by omega) _ ys.length (flat encI ys) (by rfl) H32.out.w NoBlk (some ⟨g31, 0, none⟩) 1 1 [.int .i64 st] (by rfl) (rd_blkN T11_32.out (fun h => h)) rfl one35 (by simp only [maxLen]; omega) (by omega) H32.out.o.size ?_
    intro v33 V33 hown hgr how
    have H33 := hide (H32.out.growW hgr hown)
    have T16_33 := hide (T16_32.out.grown H32.out.w (by decide) hgr)
    clear hown hgr how
    refine hK.out _ _ (HZ.out _ H33.out.o) (fun hHeld => ?_)
    clear hK K
    try simp only [Act.put, List.setIfInBounds_toArray, List.set_cons_zero, List.set_cons_succ, List.getElem_toArray, List.getElem_cons_zero, List.getElem_cons_succ]
    refine rdy1 17 (by kernel_rfl) rfl (fun K hK => ?_)
    refine step_append_rd _ rfl (.tmp 97) (.tmp 100) _ rfl W7.heap.size 3 ii _ 1 8 Tryz.underlying86 hii hiz0 hiz1 hiz2 rfl (by omega) _ zs.length (flat encI zs) (by rfl) H33.out.b NoBlk (some ⟨g26, 0, none⟩) 1 1 [.int .i64 ((k2 : Int) + 1)] (by rfl) (rd_blkN T16_33.out (fun h => h)) rfl one35 (by simp only [maxLen]; omega) (by omega) H33.out.o.size ?_
    intro v34 V34 hown hgr how
    have H34 := hide (H33.out.growB hgr hown how)
    clear hown hgr how
    refine hK.out _ _ (HZ.out _ H34.out.o) (fun hHeld => ?_)
    clear hK K
    try simp only [Act.put, List.setIfInBounds_toArray, List.set_cons_zero, List.set_cons_succ, List.getElem_toArray, List.getElem_cons_zero, List.getElem_cons_succ]
    refine tkA 18 87 rfl rfl rfl (by kernel_rfl) (by kernel_rfl) (by kernel_rfl) (fun c a w h => HQ0.out c a _ _ w h) hHeld ?_
    refine tkA 19 96 rfl rfl rfl (by kernel_rfl) (by kernel_rfl) (by kernel_rfl) (fun c a w h => HQ0.out c a _ _ w h) hHeld ?_
    refine tkA 20 101 rfl rfl rfl (by kernel_rfl) (by kernel_rfl) (by kernel_rfl) (fun c a w h => HQ0.out c a _ _ w h) hHeld ?_
    refine wpAnyH_done (by kernel_rfl) ?_ _
    simp only [Act.put, Act.eval, List.setIfInBounds_toArray, List.set_cons_zero, List.set_cons_succ, List.getElem_toArray, List.getElem_cons_zero, List.getElem_cons_succ]
    exact HEnd.out _ _ _ _ _ _ _ _ _ _ _ _ _ _ _ _ _ _ _ _ _ _ H34
 ·refine step_build1 rfl (.tmp 94) 103 2 rfl ij Tryz.underlying103 hij hjz0 hjz1 st (by rfl) ?_
  intro V35 g35 E B35 O
  have H35 := hide (H0.out.below O.out)
  clear E O
  refine hK.out _ _ (HZ.out _ H35.out.o) (fun hHeld => ?_)
  clear hK K
  try simp only [Act.put, List.setIfInBounds_toArray, List.set_cons_zero, List.set_cons_succ, List.getElem_toArray, List.getElem_cons_zero, List.getElem_cons_succ]
  refine rdy2 2 16 (by kernel_rfl) rfl rfl (fun K hK => ?_) (fun K hK => ?_)
  ·refine step_build1 rfl (.tmp 85) 86 3 rfl ii Tryz.underlying86 hii hiz0 hiz1 to_ (by rfl) ?_
   intro V36 g36 E B36 O
   have H36 := hide (H35.out.below O.out)
   have T11_36 := hide (B35.out.below O.out)
   clear E O
   refine hK.out _ _ (HZ.out _ H36.out.o) (fun hHeld => ?_)
   clear hK K
   try simp only [Act.put, List.setIfInBounds_toArray, List.set_cons_zero, List.set_cons_succ, List.getElem_toArray, List.getElem_cons_zero, List.getElem_cons_succ]
   refine rdy2 3 16 (by kernel_rfl) rfl rfl (fun K hK => ?_) (fun K hK => ?_)
   ·refine step_append_rd _ rfl (.tmp 84) (.tmp 86) _ rfl W7.heap.size 3 ii _ 1 8 Tryz.underlying86 hii hiz0 hiz1 hiz2 rfl (by omega) _ xs.length (flat encI xs) (by rfl) H36.out.a NoBlk (some ⟨g36, 0, none⟩) 1 1 [.int .i64 to_] (by rfl) (rd_blkN B36.out (fun h => h)) rfl one35 (by simp only [maxLen]; omega) (by omega) H36.out.o.size ?_
    intro v37 V37 hown hgr how
    have H37 := hide (H36.out.growA hgr hown how)
    have T11_37 := hide (T11_36.out.grown H36.out.a (by decide) hgr)
    clear hown hgr how
    refine hK.out _ _ (HZ.out _ H37.out.o) (fun hHeld => ?_)
    clear hK K
    try simp only [Act.put, List.setIfInBounds_toArray, List.set_cons_zero, List.set_cons_succ, List.getElem_toArray, List.getElem_cons_zero, List.getElem_cons_succ]
    refine rdy2 12 16 (by kernel_rfl) rfl rfl (fun K hK => ?_) (fun K hK => ?_)
    ·refine step_append_rd _ rfl (.tmp 88) (.tmp 95) _ rfl W7.heap.size 2 ij _ 1 8 Tryz.underlying103 hij hjz0 hjz1 hjz2 rfl (by omega) _ ys.length (flat encI ys) (by rfl) H37.out.w NoBlk (some ⟨g35, 0, none⟩) 1 1 [.int .i64 st] (by rfl) (rd_blkN T11_37.out (fun h => h)) rfl one35 (by simp only [maxLen]; omega) (by omega) H37.out.o.size ?_
     intro v38 V38 hown hgr how
     have H38 := hide (H37.out.growW hgr hown)
     clear hown hgr how
     refine hK.out _ _ (HZ.out _ H38.out.o) (fun hHeld => ?_)
     clear hK K
     try simp only [Act.put, List.setIfInBounds_toArray, List.set_cons_zero, List.set_cons_succ, List.getElem_toArray, List.getElem_cons_zero, List.getElem_cons_succ]
     refine rdy1 16 (by kernel_rfl) rfl (fun K hK => ?_)
     refine step_build1 rfl (.tmp 99) 86 3 rfl ii Tryz.underlying86 hii hiz0 hiz1 ((k2 : Int) + 1) (by rfl) ?_
     intro V39 g39 E B39 O
     have H39 := hide (H38.out.below O.out)
     clear E O
     refine hK.out _ _ (HZ.out _ H39.out.o) (fun hHeld => ?_)
     clear hK K
     try simp only [Act.put, List.setIfInBounds_toArray, List.set_cons_zero, List.set_cons_succ, List.getElem_toArray, List.getElem_cons_zero, List.getElem_cons_succ]
     refine rdy1 17 (by kernel_rfl) rfl (fun K hK => ?_)
     refine step_append_rd _ rfl (.tmp 97) (.tmp 100) _ rfl W7.heap.size 3 ii _ 1 8 Tryz.underlying86 hii hiz0 hiz1 hiz2 rfl (by omega) _ zs.length (flat encI zs) (by rfl) H39.out.b NoBlk (some ⟨g39, 0, none⟩) 1 1 [.int .i64 ((k2 : Int) + 1)] (by rfl) (rd_blkN B39.out (fun h => h)) rfl one35 (by simp only [maxLen]; omega) (by omega) H39.out.o.size ?_
     intro v40 V40 hown hgr how
     have H40 := hide (H39.out.growB hgr hown how)
     clear hown hgr how
     refine hK.out _ _ (HZ.out _ H40.out.o) (fun hHeld => ?_)
     clear hK K
     try simp only [Act.put, List.setIfInBounds_toArray, List.set_cons_zero, List.set_cons_succ, List.getElem_toArray, List.getElem_cons_zero, List.getElem_cons_succ]
     refine tkA 18 87 rfl rfl rfl (by kernel_rfl) (by kernel_rfl) (by kernel_rfl) (fun c a w h => HQ0.out c a _ _ w h) hHeld ?_
     refine tkA 19 96 rfl rfl rfl (by kernel_rfl) (by kernel_rfl) (by kernel_rfl) (fun c a w h => HQ0.out c a _ _ w h) hHeld ?_
     refine tkA 20 101 rfl rfl rfl (by kernel_rfl) (by kernel_rfl) (by kernel_rfl) (fun c a w h => HQ0.out c a _ _ w h) hHeld ?_
     refine wpAnyH_done (by kernel_rfl) ?_ _
     simp only [Act.put, Act.eval, List.setIfInBounds_toArray, List.set_cons_zero, List.set_cons_succ, List.getElem_toArray, List.getElem_cons_zero, List.getElem_cons_succ]
     exact HEnd.out _ _ _ _ _ _ _ _ _ _ _ _ _ _ _ _ _ _ _ _ _ _ H40
    ·refine step_build1 rfl (.tmp 99) 86 3 rfl ii Tryz.underlying86 hii hiz0 hiz1 ((k2 : Int) + 1) (by rfl) ?_
     intro V41 g41 E B41 O
     have H41 := hide (H37.out.below O.out)
     have T11_41 := hide (T11_37.out.below O.out)
     clear E O
     refine hK.out _ _ (HZ.out _ H41.out.o) (fun hHeld => ?_)
     clear hK K
     try simp only [Act.put, List.setIfInBounds_toArray, List.set_cons_zero, List.set_cons_succ, List.getElem_toArray, List.getElem_cons_zero, List.getElem_cons_succ]
     refine rdy1 12 (by kernel_rfl) rfl (fun K hK => ?_)
     refine step_append_rd _ rfl (.tmp 88) (.tmp 95) _ rfl W7.heap.size 2 ij _ 1 8 Tryz.underlying103 hij hjz0 hjz1 hjz2 rfl (by omega) _ ys.length (flat encI ys) (by rfl) H41.out.w NoBlk (some ⟨g35, 0, none⟩) 1 1 [.int .i64 st] (by rfl) (rd_blkN T11_41.out (fun h => h)) rfl one35 (by simp only [maxLen]; omega) (by omega) H41.out.o.size ?_
     intro v42 V42 hown hgr how
     have H42 := hide (H41.out.growW hgr hown)
     have T16_42 := hide (B41.out.grown H41.out.w (by decide) hgr)
     clear hown hgr how
     refine hK.out _ _ (HZ.out _ H42.out.o) (fun hHeld => ?_)
     clear hK K
     try simp only [Act.put, List.setIfInBounds_toArray, List.set_cons_zero, List.set_cons_succ, List.getElem_toArray, List.getElem_cons_zero, List.getElem_cons_succ]
     refine rdy1 17 (by kernel_rfl) rfl (fun K hK => ?_)
     refine step_append_rd _ rfl (.tmp 97) (.tmp 100) _ rfl W7.heap.size 3 ii _ 1 8 Tryz.underlying86 hii hiz0 hiz1 hiz2 rfl (by omega) _ zs.length (flat encI zs) (by rfl) H42.out.b NoBlk (some ⟨g41, 0, none⟩) 1 1 [.int .i64 ((k2 : Int) + 1)] (by rfl) (rd_blkN T16_42.out (fun h => h)) rfl one35 (by simp only [maxLen]; omega) (by omega) H42.out.o.size ?_
     intro v43 V43 hown hgr how
     have H43 := hide (H42.out.growB hgr hown how)
     clear hown hgr how
     refine hK.out _ _ (HZ.out _ H43.out.o) (fun hHeld => ?_)
     clear hK K
     try simp only [Act.put, List.setIfInBounds_toArray, List.set_cons_zero, List.set_cons_succ, List.getElem_toArray, List.getElem_cons_zero, List.getElem_cons_succ]
     refine tkA 18 87 rfl rfl rfl (by kernel_rfl) (by kernel_rfl) (by kernel_rfl) (fun c a w h => HQ0.out c a _ _ w h) hHeld ?_
     refine tkA 19 96 rfl rfl rfl (by kernel_rfl) (by kernel_rfl) (by kernel_rfl) (fun c a w h => HQ0.out c a _ _ w h) hHeld ?_
     refine tkA 20 101 rfl rfl rfl (by kernel_rfl) (by kernel_rfl) (by kernel_rfl) (fun c a w h => HQ0.out c a _ _ w h) hHeld ?_
     refine wpAnyH_done (by kernel_rfl) ?_ _
     simp only [Act.put, Act.eval, List.setIfInBounds_toArray, List.set_cons_zero, List.set_cons_succ, List.getElem_toArray, List.getElem_cons_zero, List.getElem_cons_succ]
     exact HEnd.out _ _ _ _ _ _ _ _ _ _ _ _ _ _ _ _ _ _ _ _ _ _ H43
   ·refine step_build1 rfl (.tmp 99) 86 3 rfl ii Tryz.underlying86 hii hiz0 hiz1 ((k2 : Int) + 1) (by rfl) ?_
    intro V44 g44 E B44 O
    have H44 := hide (H36.out.below O.out)
    have T11_44 := hide (T11_36.out.below O.out)
    have T2_44 := hide (B36.out.below O.out)
    have N44 := hide (show ∀ k, Value.ownBlock _ = some k → k ≠ g44 from fun k hk => by have := own_ltF H36.out.a k hk; have := E.out; omega)
    clear E O
    refine hK.out _ _ (HZ.out _ H44.out.o) (fun hHeld => ?_)
    clear hK K
    try simp only [Act.put, List.setIfInBounds_toArray, List.set_cons_zero, List.set_cons_succ, List.getElem_toArray, List.getElem_cons_zero, List.getElem_cons_succ]
    refine rdy1 3 (by kernel_rfl) rfl (fun K hK => ?_)
    refine step_append_rd _ rfl (.tmp 84) (.tmp 86) _ rfl W7.heap.size 3 ii _ 1 8 Tryz.underlying86 hii hiz0 hiz1 hiz2 rfl (by omega) _ xs.length (flat encI xs) (by rfl) H44.out.a NoBlk (some ⟨g36, 0, none⟩) 1 1 [.int .i64 to_] (by rfl) (rd_blkN T2_44.out (fun h => h)) rfl one35 (by simp only [maxLen]; omega) (by omega) H44.out.o.size ?_
    intro v45 V45 hown hgr how
    have H45 := hide (H44.out.growA hgr hown how)
    have T11_45 := hide (T11_44.out.grown H44.out.a (by decide) hgr)
    have T16_45 := hide (B44.out.beside N44.out hgr)
    clear hown hgr how
    refine hK.out _ _ (HZ.out _ H45.out.o) (fun hHeld => ?_)
    clear hK K
    try simp only [Act.put, List.setIfInBounds_toArray, List.set_cons_zero, List.set_cons_succ, List.getElem_toArray, List.getElem_cons_zero, List.getElem_cons_succ]
    refine rdy1 12 (by kernel_rfl) rfl (fun K hK => ?_)
    refine step_append_rd _ rfl (.tmp 88) (.tmp 95) _ rfl W7.heap.size 2 ij _ 1 8 Tryz.underlying103 hij hjz0 hjz1 hjz2 rfl (by omega) _ ys.length (flat encI ys) (by rfl) H45.out.w NoBlk (some ⟨g35, 0, none⟩) 1 1 [.int .i64 st] (by rfl) (rd_blkN T11_45.out (fun h => h)) rfl one35 (by simp only [maxLen]; omega) (by omega) H45.out.o.size ?_
    intro v46 V46 hown hgr how
    have H46 := hide (H45.out.growW hgr hown)
    have T16_46 := hide (T16_45.out.grown H45.out.w (by decide) hgr)
    clear hown hgr how
    refine hK.out _ _ (HZ.out _ H46.out.o) (fun hHeld => ?_)
    clear hK K
    try simp only [Act.put, List.setIfInBounds_toArray, List.set_cons_zero, List.set_cons_succ, List.getElem_toArray, List.getElem_cons_zero, List.getElem_cons_succ]
    refine rdy1 17 (by kernel_rfl) rfl (fun K hK => ?_)
    refine step_append_rd _ rfl (.tmp 97) (.tmp 100) _ rfl W7.heap.size 3 ii _ 1 8 Tryz.underlying86 hii hiz0 hiz1 hiz2 rfl (by omega) _ zs.length (flat encI zs) (by rfl) H46.out.b NoBlk (some ⟨g44, 0, none⟩) 1 1 [.int .i64 ((k2 : Int) + 1)] (by rfl) (rd_blkN T16_46.out (fun h => h)) rfl one35 (by simp only [maxLen]; omega) (by omega) H46.out.o.size ?_
    intro v47 V47 hown hgr how
    have H47 := hide (H46.out.growB hgr hown how)
    clear hown hgr how
    refine hK.out _ _ (HZ.out _ H47.out.o) (fun hHeld => ?_)
    clear hK K
    try simp only [Act.put, List.setIfInBounds_toArray, List.set_cons_zero, List.set_cons_succ, List.getElem_toArray, List.getElem_cons_zero, List.getElem_cons_succ]
    refine tkA 18 87 rfl rfl rfl (by kernel_rfl) (by kernel_rfl) (by kernel_rfl) (fun c a w h => HQ0.out c a _ _ w h) hHeld ?_
    refine tkA 19 96 rfl rfl rfl (by kernel_rfl) (by kernel_rfl) (by kernel_rfl) (fun c a w h => HQ0.out c a _ _ w h) hHeld ?_
    refine tkA 20 101 rfl rfl rfl (by kernel_rfl) (by kernel_rfl) (by kernel_rfl) (fun c a w h => HQ0.out c a _ _ w h) hHeld ?_
    refine wpAnyH_done (by kernel_rfl) ?_ _
    simp only [Act.put, Act.eval, List.setIfInBounds_toArray, List.set_cons_zero, List.set_cons_succ, List.getElem_toArray, List.getElem_cons_zero, List.getElem_cons_succ]
    exact HEnd.out _ _ _ _ _ _ _ _ _ _ _ _ _ _ _ _ _ _ _ _ _ _ H47
  ·refine step_build1 rfl (.tmp 99) 86 3 rfl ii Tryz.underlying86 hii hiz0 hiz1 ((k2 : Int) + 1) (by rfl) ?_
   intro V48 g48 E B48 O
   have H48 := hide (H35.out.below O.out)
   have T11_48 := hide (B35.out.below O.out)
   have N48 := hide (show ∀ k, Value.ownBlock _ = some k → k ≠ g48 from fun k hk => by have := own_ltF H35.out.a k hk; have := E.out; omega)
   clear E O
   refine hK.out _ _ (HZ.out _ H48.out.o) (fun hHeld => ?_)
   clear hK K
   try simp only [Act.put, List.setIfInBounds_toArray, List.set_cons_zero, List.set_cons_succ, List.getElem_toArray, List.getElem_cons_zero, List.getElem_cons_succ]
   refine rdy1 2 (by kernel_rfl) rfl (fun K hK => ?_)
   refine step_build1 rfl (.tmp 85) 86 3 rfl ii Tryz.underlying86 hii hiz0 hiz1 to_ (by rfl) ?_
   intro V49 g49 E B49 O
   have H49 := hide (H48.out.below O.out)
   have T11_49 := hide (T11_48.out.below O.out)
   have T16_49 := hide (B48.out.below O.out)
   clear E O
   refine hK.out _ _ (HZ.out _ H49.out.o) (fun hHeld => ?_)
   clear hK K
   try simp only [Act.put, List.setIfInBounds_toArray, List.set_cons_zero, List.set_cons_succ, List.getElem_toArray, List.getElem_cons_zero, List.getElem_cons_succ]
   refine rdy1 3 (by kernel_rfl) rfl (fun K hK => ?_)
   refine step_append_rd _ rfl (.tmp 84) (.tmp 86) _ rfl W7.heap.size 3 ii _ 1 8 Tryz.underlying86 hii hiz0 hiz1 hiz2 rfl (by omega) _ xs.length (flat encI xs) (by rfl) H49.out.a NoBlk (some ⟨g49, 0, none⟩) 1 1 [.int .i64 to_] (by rfl) (rd_blkN B49.out (fun h => h)) rfl one35 (by simp only [maxLen]; omega) (by omega) H49.out.o.size ?_
   intro v50 V50 hown hgr how
   have H50 := hide (H49.out.growA hgr hown how)
   have T11_50 := hide (T11_49.out.grown H49.out.a (by decide) hgr)
   have T16_50 := hide (T16_49.out.beside N48.out hgr)
   clear hown hgr how
   refine hK.out _ _ (HZ.out _ H50.out.o) (fun hHeld => ?_)
   clear hK K
   try simp only [Act.put, List.setIfInBounds_toArray, List.set_cons_zero, List.set_cons_succ, List.getElem_toArray, List.getElem_cons_zero, List.getElem_cons_succ]
   refine rdy1 12 (by kernel_rfl) rfl (fun K hK => ?_)
   refine step_append_rd _ rfl (.tmp 88) (.tmp 95) _ rfl W7.heap.size 2 ij _ 1 8 Tryz.underlying103 hij hjz0 hjz1 hjz2 rfl (by omega) _ ys.length (flat encI ys) (by rfl) H50.out.w NoBlk (some ⟨g35, 0, none⟩) 1 1 [.int .i64 st] (by rfl) (rd_blkN T11_50.out (fun h => h)) rfl one35 (by simp only [maxLen]; omega) (by omega) H50.out.o.size ?_
   intro v51 V51 hown hgr how
   have H51 := hide (H50.out.growW hgr hown)
   have T16_51 := hide (T16_50.out.grown H50.out.w (by decide) hgr)
   clear hown hgr how
   refine hK.out _ _ (HZ.out _ H51.out.o) (fun hHeld => ?_)
   clear hK K
   try simp only [Act.put, List.setIfInBounds_toArray, List.set_cons_zero, List.set_cons_succ, List.getElem_toArray, List.getElem_cons_zero, List.getElem_cons_succ]
   refine rdy1 17 (by kernel_rfl) rfl (fun K hK => ?_)
   refine step_append_rd _ rfl (.tmp 97) (.tmp 100) _ rfl W7.heap.size 3 ii _ 1 8 Tryz.underlying86 hii hiz0 hiz1 hiz2 rfl (by omega) _ zs.length (flat encI zs) (by rfl) H51.out.b NoBlk (some ⟨g48, 0, none⟩) 1 1 [.int .i64 ((k2 : Int) + 1)] (by rfl) (rd_blkN T16_51.out (fun h => h)) rfl one35 (by simp only [maxLen]; omega) (by omega) H51.out.o.size ?_
   intro v52 V52 hown hgr how
   have H52 := hide (H51.out.growB hgr hown how)
   clear hown hgr how
   refine hK.out _ _ (HZ.out _ H52.out.o) (fun hHeld => ?_)
   clear hK K
   try simp only [Act.put, List.setIfInBounds_toArray, List.set_cons_zero, List.set_cons_succ, List.getElem_toArray, List.getElem_cons_zero, List.getElem_cons_succ]
   refine tkA 18 87 rfl rfl rfl (by kernel_rfl) (by kernel_rfl) (by kernel_rfl) (fun c a w h => HQ0.out c a _ _ w h) hHeld ?_
   refine tkA 19 96 rfl rfl rfl (by kernel_rfl) (by kernel_rfl) (by kernel_rfl) (fun c a w h => HQ0.out c a _ _ w h) hHeld ?_
   refine tkA 20 101 rfl rfl rfl (by kernel_rfl) (by kernel_rfl) (by kernel_rfl) (fun c a w h => HQ0.out c a _ _ w h) hHeld ?_
   refine wpAnyH_done (by kernel_rfl) ?_ _
   simp only [Act.put, Act.eval, List.setIfInBounds_toArray, List.set_cons_zero, List.set_cons_succ, List.getElem_toArray, List.getElem_cons_zero, List.getElem_cons_succ]
   exact HEnd.out _ _ _ _ _ _ _ _ _ _ _ _ _ _ _ _ _ _ _ _ _ _ H52
 ·refine step_build1 rfl (.tmp 99) 86 3 rfl ii Tryz.underlying86 hii hiz0 hiz1 ((k2 : Int) + 1) (by rfl) ?_
  intro V53 g53 E B53 O
  have H53 := hide (H0.out.below O.out)
  have N53 := hide (show ∀ k, Value.ownBlock _ = some k → k ≠ g53 from fun k hk => by have := own_ltF H0.out.a k hk; have := E.out; omega)
  clear E O
  refine hK.out _ _ (HZ.out _ H53.out.o) (fun hHeld => ?_)
  clear hK K
  try simp only [Act.put, List.setIfInBounds_toArray, List.set_cons_zero, List.set_cons_succ, List.getElem_toArray, List.getElem_cons_zero, List.getElem_cons_succ]
  refine rdy2 2 11 (by kernel_rfl) rfl rfl (fun K hK => ?_) (fun K hK => ?_)
  ·refine step_build1 rfl (.tmp 85) 86 3 rfl ii Tryz.underlying86 hii hiz0 hiz1 to_ (by rfl) ?_
   intro V54 g54 E B54 O
   have H54 := hide (H53.out.below O.out)
   have T16_54 := hide (B53.out.below O.out)
   clear E O
   refine hK.out _ _ (HZ.out _ H54.out.o) (fun hHeld => ?_)
   clear hK K
   try simp only [Act.put, List.setIfInBounds_toArray, List.set_cons_zero, List.set_cons_succ, List.getElem_toArray, List.getElem_cons_zero, List.getElem_cons_succ]
   refine rdy2 3 11 (by kernel_rfl) rfl rfl (fun K hK => ?_) (fun K hK => ?_)
   ·refine step_append_rd _ rfl (.tmp 84) (.tmp 86) _ rfl W7.heap.size 3 ii _ 1 8 Tryz.underlying86 hii hiz0 hiz1 hiz2 rfl (by omega) _ xs.length (flat encI xs) (by rfl) H54.out.a NoBlk (some ⟨g54, 0, none⟩) 1 1 [.int .i64 to_] (by rfl) (rd_blkN B54.out (fun h => h)) rfl one35 (by simp only [maxLen]; omega) (by omega) H54.out.o.size ?_
    intro v55 V55 hown hgr how
    have H55 := hide (H54.out.growA hgr hown how)
    have T16_55 := hide (T16_54.out.beside N53.out hgr)
    clear hown hgr how
    refine hK.out _ _ (HZ.out _ H55.out.o) (fun hHeld => ?_)
    clear hK K
    try simp only [Act.put, List.setIfInBounds_toArray, List.set_cons_zero, List.set_cons_succ, List.getElem_toArray, List.getElem_cons_zero, List.getElem_cons_succ]
    refine rdy1 11 (by kernel_rfl) rfl (fun K hK => ?_)
    refine step_build1 rfl (.tmp 94) 103 2 rfl ij Tryz.underlying103 hij hjz0 hjz1 st (by rfl) ?_
    intro V56 g56 E B56 O
    have H56 := hide (H55.out.below O.out)
    have T16_56 := hide (T16_55.out.below O.out)
    clear E O
    refine hK.out _ _ (HZ.out _ H56.out.o) (fun hHeld => ?_)
    clear hK K
    try simp only [Act.put, List.setIfInBounds_toArray, List.set_cons_zero, List.set_cons_succ, List.getElem_toArray, List.getElem_cons_zero, List.getElem_cons_succ]
    refine rdy1 12 (by kernel_rfl) rfl (fun K hK => ?_)
    refine step_append_rd _ rfl (.tmp 88) (.tmp 95) _ rfl W7.heap.size 2 ij _ 1 8 Tryz.underlying103 hij hjz0 hjz1 hjz2 rfl (by omega) _ ys.length (flat encI ys) (by rfl) H56.out.w NoBlk (some ⟨g56, 0, none⟩) 1 1 [.int .i64 st] (by rfl) (rd_blkN B56.out (fun h => h)) rfl one35 (by simp only [maxLen]; omega) (by omega) H56.out.o.size ?_
    intro v57 V57 hown hgr how
    have H57 := hide (H56.out.growW hgr hown)
    have T16_57 := hide (T16_56.out.grown H56.out.w (by decide) hgr)
    clear hown hgr how
    refine hK.out _ _ (HZ.out _ H57.out.o) (fun hHeld => ?_)
    clear hK K
    try simp only [Act.put, List.setIfInBounds_toArray, List.set_cons_zero, List.set_cons_succ, List.getElem_toArray, List.getElem_cons_zero, List.getElem_cons_succ]
    refine rdy1 17 (by kernel_rfl) rfl (fun K hK => ?_)
    refine step_append_rd _ rfl (.tmp 97) (.tmp 100) _ rfl W7.heap.size 3 ii _ 1 8 Tryz.underlying86 hii hiz0 hiz1 hiz2 rfl (by omega) _ zs.length (flat encI zs) (by rfl) H57.out.b NoBlk (some ⟨g53, 0, none⟩) 1 1 [.int .i64 ((k2 : Int) + 1)] (by rfl) (rd_blkN T16_57.out (fun h => h)) rfl one35 (by simp only [maxLen]; omega) (by omega) H57.out.o.size ?_
    intro v58 V58 hown hgr how
    have H58 := hide (H57.out.growB hgr hown how)
    clear hown hgr how
    refine hK.out _ _ (HZ.out _ H58.out.o) (fun hHeld => ?_)
    clear hK K
    try simp only [Act.put, List.setIfInBounds_toArray, List.set_cons_zero, List.set_cons_succ, List.getElem_toArray, List.getElem_cons_zero, List.getElem_cons_succ]
    refine tkA 18 87 rfl rfl rfl (by kernel_rfl) (by kernel_rfl) (by kernel_rfl) (fun c a w h => HQ0.out c a _ _ w h) hHeld ?_
    refine tkA 19 96 rfl rfl rfl (by kernel_rfl) (by kernel_rfl) (by kernel_rfl) (fun c a w h => HQ0.out c a _ _ w h) hHeld ?_
    refine tkA 20 101 rfl rfl rfl (by kernel_rfl) (by kernel_rfl) (by kernel_rfl) (fun c a w h => HQ0.out c a _ _ w h) hHeld ?_
    refine wpAnyH_done (by kernel_rfl) ?_ _
    simp only [Act.put, Act.eval, List.setIfInBounds_toArray, List.set_cons_zero, List.set_cons_succ, List.getElem_toArray, List.getElem_cons_zero, List.getElem_cons_succ]
    exact HEnd.out _ _ _ _ _ _ _ _ _ _ _ _ _ _ _ _ _ _ _ _ _ _ H58
   ·refine step_build1 rfl (.tmp 94) 103 2 rfl ij Tryz.underlying103 hij hjz0 hjz1 st (by rfl) ?_
    intro V59 g59 E B59 O
    have H59 := hide (H54.out.below O.out)
    have T16_59 := hide (T16_54.out.below O.out)
    have T2_59 := hide (B54.out.below O.out)
    clear E O
    refine hK.out _ _ (HZ.out _ H59.out.o) (fun hHeld => ?_)
    clear hK K
    try simp only [Act.put, List.setIfInBounds_toArray, List.set_cons_zero, List.set_cons_succ, List.getElem_toArray, List.getElem_cons_zero, List.getElem_cons_succ]
    refine rdy1 3 (by kernel_rfl) rfl (fun K hK => ?_)
    refine step_append_rd _ rfl (.tmp 84) (.tmp 86) _ rfl W7.heap.size 3 ii _ 1 8 Tryz.underlying86 hii hiz0 hiz1 hiz2 rfl (by omega) _ xs.length (flat encI xs) (by rfl) H59.out.a NoBlk (some ⟨g54, 0, none⟩) 1 1 [.int .i64 to_] (by rfl) (rd_blkN T2_59.out (fun h => h)) rfl one35 (by simp only [maxLen]; omega) (by omega) H59.out.o.size ?_
    intro v60 V60 hown hgr how
    have H60 := hide (H59.out.growA hgr hown how)
    have T16_60 := hide (T16_59.out.beside N53.out hgr)
    have T11_60 := hide (B59.out.grown H59.out.a (by decide) hgr)
    clear hown hgr how
    refine hK.out _ _ (HZ.out _ H60.out.o) (fun hHeld => ?_)
    clear hK K
    try simp only [Act.put, List.setIfInBounds_toArray, List.set_cons_zero, List.set_cons_succ, List.getElem_toArray, List.getElem_cons_zero, List.getElem_cons_succ]
    refine rdy1 12 (by kernel_rfl) rfl (fun K hK => ?_)
    refine step_append_rd _ rfl (.tmp 88) (.tmp 95) _ rfl W7.heap.size 2 ij _ 1 8 Tryz.underlying103 hij hjz0 hjz1 hjz2 rfl (by omega) _ ys.length (flat encI ys) (by rfl) H60.out.w NoBlk (some ⟨g59, 0, none⟩) 1 1 [.int .i64 st] (by rfl) (rd_blkN T11_60.out (fun h => h)) rfl one35 (by simp only [maxLen]; omega) (by omega) H60.out.o.size ?_
    intro v61 V61 hown hgr how
    have H61 := hide (H60.out.growW hgr hown)
    have T16_61 := hide (T16_60.out.grown H60.out.w (by decide) hgr)
    clear hown hgr how
    refine hK.out _ _ (HZ.out _ H61.out.o) (fun hHeld => ?_)
    clear hK K
    try simp only [Act.put, List.setIfInBounds_toArray, List.set_cons_zero, List.set_cons_succ, List.getElem_toArray, List.getElem_cons_zero, List.getElem_cons_succ]
    refine rdy1 17 (by kernel_rfl) rfl (fun K hK => ?_)
    refine step_append_rd _ rfl (.tmp 97) (.tmp 100) _ rfl W7.heap.size 3 ii _ 1 8 Tryz.underlying86 hii hiz0 hiz1 hiz2 rfl (by omega) _ zs.length (flat encI zs) (by rfl) H61.out.b NoBlk (some ⟨g53, 0, none⟩) 1 1 [.int .i64 ((k2 : Int) + 1)] (by rfl) (rd_blkN T16_61.out (fun h => h)) rfl one35 (by simp only [maxLen]; omega) (by omega) H61.out.o.size ?_
    intro v62 V62 hown hgr how
    have H62 := hide (H61.out.growB hgr hown how)
    clear hown hgr how
    refine hK.out _ _ (HZ.out _ H62.out.o) (fun hHeld => ?_)
    clear hK K
    try simp only [Act.put, List.setIfInBounds_toArray, List.set_cons_zero, List.set_cons_succ, List.getElem_toArray, List.getElem_cons_zero, List.getElem_cons_succ]
    refine tkA 18 87 rfl rfl rfl (by kernel_rfl) (by kernel_rfl) (by kernel_rfl) (fun c a w h => HQ0.out c a _ _ w h) hHeld ?_
    refine tkA 19 96 rfl rfl rfl (by kernel_rfl) (by kernel_rfl) (by kernel_rfl) (fun c a w h => HQ0.out c a _ _ w h) hHeld ?_
    refine tkA 20 101 rfl rfl rfl (by kernel_rfl) (by kernel_rfl) (by kernel_rfl) (fun c a w h => HQ0.out c a _ _ w h) hHeld ?_
    refine wpAnyH_done (by kernel_rfl) ?_ _
    simp only [Act.put, Act.eval, List.setIfInBounds_toArray, List.set_cons_zero, List.set_cons_succ, List.getElem_toArray, List.getElem_cons_zero, List.getElem_cons_succ]
    exact HEnd.out _ _ _ _ _ _ _ _ _ _ _ _ _ _ _ _ _ _ _ _ _ _ H62
  ·refine step_build1 rfl (.tmp 94) 103 2 rfl ij Tryz.underlying103 hij hjz0 hjz1 st (by rfl) ?_
   intro V63 g63 E B63 O
   have H63 := hide (H53.out.below O.out)
   have T16_63 := hide (B53.out.below O.out)
   clear E O
   refine hK.out _ _ (HZ.out _ H63.out.o) (fun hHeld => ?_)
   clear hK K
   try simp only [Act.put, List.setIfInBounds_toArray, List.set_cons_zero, List.set_cons_succ, List.getElem_toArray, List.getElem_cons_zero, List.getElem_cons_succ]
   refine rdy1 2 (by kernel_rfl) rfl (fun K hK => ?_)
   refine step_build1 rfl (.tmp 85) 86 3 rfl ii Tryz.underlying86 hii hiz0 hiz1 to_ (by rfl) ?_
   intro V64 g64 E B64 O
   have H64 := hide (H63.out.below O.out)
   have T16_64 := hide (T16_63.out.below O.out)
   have T11_64 := hide (B63.out.below O.out)
   clear E O
   refine hK.out _ _ (HZ.out _ H64.out.o) (fun hHeld => ?_)
   clear hK K
   try simp only [Act.put, List.setIfInBounds_toArray, List.set_cons_zero, List.set_cons_succ, List.getElem_toArray, List.getElem_cons_zero, List.getElem_cons_succ]
   refine rdy1 3 (by kernel_rfl) rfl (fun K hK => ?_)
   refine step_append_rd _ rfl (.tmp 84) (.tmp 86) _ rfl W7.heap.size 3 ii _ 1 8 Tryz.underlying86 hii hiz0 hiz1 hiz2 rfl (by omega) _ xs.length (flat encI xs) (by rfl) H64.out.a NoBlk (some ⟨g64, 0, none⟩) 1 1 [.int .i64 to_] (by rfl) (rd_blkN B64.out (fun h => h)) rfl one35 (by simp only [maxLen]; omega) (by omega) H64.out.o.size ?_
   intro v65 V65 hown hgr how
   have H65 := hide (H64.out.growA hgr hown how)
   have T16_65 := hide (T16_64.out.beside N53.out hgr)
   have T11_65 := hide (T11_64.out.grown H64.out.a (by decide) hgr)
   clear hown hgr how
   refine hK.out _ _ (HZ.out _ H65.out.o) (fun hHeld => ?_)
   clear hK K
   try simp only [Act.put, List.setIfInBounds_toArray, List.set_cons_zero, List.set_cons_succ, List.getElem_toArray, List.getElem_cons_zero, List.getElem_cons_succ]
   refine rdy1 12 (by kernel_rfl) rfl (fun K hK => ?_)
   refine step_append_rd _ rfl (.tmp 88) (.tmp 95) _ rfl W7.heap.size 2 ij _ 1 8 Tryz.underlying103 hij hjz0 hjz1 hjz2 rfl (by omega) _ ys.length (flat encI ys) (by rfl) H65.out.w NoBlk (some ⟨g63, 0, none⟩) 1 1 [.int .i64 st] (by rfl) (rd_blkN T11_65.out (fun h => h)) rfl one35 (by simp only [maxLen]; omega) (by omega) H65.out.o.size ?_
   intro v66 V66 hown hgr how
   have H66 := hide (H65.out.growW hgr hown)
   have T16_66 := hide (T16_65.out.grown H65.out.w (by decide) hgr)
   clear hown hgr how
   refine hK.out _ _ (HZ.out _ H66.out.o) (fun hHeld => ?_)
   clear hK K
   try simp only [Act.put, List.setIfInBounds_toArray, List.set_cons_zero, List.set_cons_succ, List.getElem_toArray, List.getElem_cons_zero, List.getElem_cons_succ]
   refine rdy1 17 (by kernel_rfl) rfl (fun K hK => ?_)
   refine step_append_rd _ rfl (.tmp 97) (.tmp 100) _ rfl W7.heap.size 3 ii _ 1 8 Tryz.underlying86 hii hiz0 hiz1 hiz2 rfl (by omega) _ zs.length (flat encI zs) (by rfl) H66.out.b NoBlk (some ⟨g53, 0, none⟩) 1 1 [.int .i64 ((k2 : Int) + 1)] (by rfl) (rd_blkN T16_66.out (fun h => h)) rfl one35 (by simp only [maxLen]; omega) (by omega) H66.out.o.size ?_
   intro v67 V67 hown hgr how
   have H67 := hide (H66.out.growB hgr hown how)
   clear hown hgr how
   refine hK.out _ _ (HZ.out _ H67.out.o) (fun hHeld => ?_)
   clear hK K
   try simp only [Act.put, List.setIfInBounds_toArray, List.set_cons_zero, List.set_cons_succ, List.getElem_toArray, List.getElem_cons_zero, List.getElem_cons_succ]
   refine tkA 18 87 rfl rfl rfl (by kernel_rfl) (by kernel_rfl) (by kernel_rfl) (fun c a w h => HQ0.out c a _ _ w h) hHeld ?_
   refine tkA 19 96 rfl rfl rfl (by kernel_rfl) (by kernel_rfl) (by kernel_rfl) (fun c a w h => HQ0.out c a _ _ w h) hHeld ?_
   refine tkA 20 101 rfl rfl rfl (by kernel_rfl) (by kernel_rfl) (by kernel_rfl) (fun c a w h => HQ0.out c a _ _ w h) hHeld ?_
   refine wpAnyH_done (by kernel_rfl) ?_ _
   simp only [Act.put, Act.eval, List.setIfInBounds_toArray, List.set_cons_zero, List.set_cons_succ, List.getElem_toArray, List.getElem_cons_zero, List.getElem_cons_succ]
   exact HEnd.out _ _ _ _ _ _ _ _ _ _ _ _ _ _ _ _ _ _ _ _ _ _ H67
end Go.Proofs.YtdmdohjdmnmabaaGreat
