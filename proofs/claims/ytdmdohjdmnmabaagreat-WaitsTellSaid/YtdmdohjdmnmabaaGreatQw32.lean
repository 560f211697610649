/- The page's life of one: a round that changes nothing. Conditions: those of each theorem. -/
import Derived.Test.YtdmdohjdmnmabaaGreatQw26
namespace Go.Proofs.YtdmdohjdmnmabaaGreat
open Go.RowKit
set_option linter.unusedVariables false

set_option maxRecDepth 100000 in
set_option maxHeartbeats 16000000 in
theorem refOf_n7 (R' : Ending → World → Prop) (N K : Act → World → Prop) (bc : Code) (hbc : Tryz.f45.body.bind loopBody = some bc) (b o c n k : Nat) (l : List Ev) (id ck : Int) (w wr : World) (f : LifeM) (x : Ev) (hlt : k < n) (hn : n ≤ 10000)
 (g0 : wr.cell? ⟨b, o + k * 12, none⟩ = some (.int .i64 x.k)) (g1 : wr.cell? ⟨b, o + k * 12 + 1, none⟩ = some (.int .i64 x.id)) (g2 : wr.cell? ⟨b, o + k * 12 + 2, none⟩ = some (.int .i64 x.n)) (g3 : wr.cell? ⟨b, o + k * 12 + 3, none⟩ = some (.int .i64 x.tick)) (g4 : wr.cell? ⟨b, o + k * 12 + 4, none⟩ = some (.string x.s)) (g5 : wr.cell? ⟨b, o + k * 12 + 5, none⟩ = some (.int .i64 x.err)) (g6 : wr.cell? ⟨b, o + k * 12 + 6, none⟩ = some (.int .i64 x.st.tick)) (g7 : wr.cell? ⟨b, o + k * 12 + 7, none⟩ = some (.int .i64 x.st.at_)) (g8 : wr.cell? ⟨b, o + k * 12 + 8, none⟩ = some (.int .i64 x.st.what)) (g9 : wr.cell? ⟨b, o + k * 12 + 9, none⟩ = some (.int .i64 x.st.arm)) (g10 : wr.cell? ⟨b, o + k * 12 + 10, none⟩ = some (.int .i64 x.st.n)) (g11 : wr.cell? ⟨b, o + k * 12 + 11, none⟩ = some (.int .i64 x.st.status))
 (hxs : x.s.size ≤ 100) (hB0' : Blk wr w.heap.size 92 zeroV) (hbel : Below w.heap.size w wr) (hRL : RLAt wr (w.heap.size + 1) (w.heap.size + 1) id f) (hsm : Small f k) (HF2 : Hid (lifeGo id 0 (l.take (k + 1)) = some (addL id f x))) (h7 : x.k = 7) (hs : ¬ f.status = 0)
 (u10 u12 u13 u14 u15 u16 u17 u18 u19 u20 u21 u22 u23 u24 u25 u26 u27 u28 u29 u30 u31 u32 u33 u34 u35 u36 u37 u38 u39 u40 u41 u42 u43 u44 u45 u46 u47 u48 u49 u50 u51 u52 u53 u54 u55 u56 u57 u58 u59 u60 u61 u62 u63 u64 u65 u66 u67 u68 u69 u70 u71 u72 u73 u74 u75 u76 u77 u78 u79 u80 u81 u82 u83 u84 u85 u86 u87 u88 u89 u90 u91 u92 u93 u94 u95 u96 u97 u98 u99 u100 u101 u102 u103 u104 u105 u106 u107 u108 u109 u110 u111 u112 u113 u114 u115 u116 u117 u118 u119 u120 u121 u122 u123 u124 u125 u126 u127 u128 u129 u130 u131 u132 u133 u134 u135 u136 u137 u138 u139 u140 u141 u142 u143 u144 u145 u146 u147 u148 u149 u150 u151 u152 u153 u154 u155 u156 u157 u158 u159 u160 u161 u162 u163 u164 u165 u166 : Value) (hN : ∀ a' w', RoundN w id l n (some ⟨b, o, none⟩) c k a' w' → N a' w') :
 bc.wp Tryz.prog (Exit.then N (Exit.inBlock 0 (Exit.then K (bodyPost Tryz.prog Tryz.f45 R')))) { tmps := #[.slice (some ⟨b, o, none⟩) n c, .int .i64 id, undef, undef, .pointer (some ⟨w.heap.size, 0, none⟩), .bool false, .pointer (some ⟨w.heap.size + 1, 0, none⟩), .bool true, (.int .i64 ck), .int .i64 k, u10, .agg #[.int .i64 0, .int .i64 0, .int .i64 0, .slice none 0 0, .slice none 0 0, .slice none 0 0, .string ⟨#[]⟩, .string ⟨#[]⟩, .bool false, .int .i64 0], u12, u13, u14, u15, u16, u17, u18, u19, u20, u21, u22, u23, u24, u25, u26, u27, u28, u29, u30, u31, u32, u33, u34, u35, u36, u37, u38, u39, u40, u41, u42, u43, u44, u45, u46, u47, u48, u49, u50, u51, u52, u53, u54, u55, u56, u57, u58, u59, u60, u61, u62, u63, u64, u65, u66, u67, u68, u69, u70, u71, u72, u73, u74, u75, u76, u77, u78, u79, u80, u81, u82, u83, u84, u85, u86, u87, u88, u89, u90, u91, u92, u93, u94, u95, u96, u97, u98, u99, u100, u101, u102, u103, u104, u105, u106, u107, u108, u109, u110, u111, u112, u113, u114, u115, u116, u117, u118, u119, u120, u121, u122, u123, u124, u125, u126, u127, u128, u129, u130, u131, u132, u133, u134, u135, u136, u137, u138, u139, u140, u141, u142, u143, u144, u145, u146, u147, u148, u149, u150, u151, u152, u153, u154, u155, u156, u157, u158, u159, u160, u161, u162, u163, u164, u165, u166, undef, undef], defers := [] } wr := by
 injection hbc with hbc
 subst hbc
 have hB0 := hide hB0'
 have Hbel := hide hbel
 have HN := hide hN
 clear hB0' hbel hN
 obtain ⟨ii, hii, hiz0, hiz1, hiz2⟩ := info_parts Tryz.infoInp
 obtain ⟨io, hio, hoz0, hoz1, hoz2⟩ := info_parts Tryz.infoOut23
 obtain ⟨is, his, hsz0, hsz1, hsz2⟩ := info_parts Tryz.infoStp
 have hSm := hide (hsm.add (id := id) x hxs)
 obtain ⟨vi, vw, vs, xw, hm⟩ := hRL.ex
 obtain ⟨A1, c1, rfl, hc1⟩ := own_cap hm.oi
 obtain ⟨A2, c2, rfl, hc2⟩ := own_cap hm.ow
 obtain ⟨A3, c3, rfl, hc3⟩ := own_cap hm.os
 have hl1 : f.ins.length ≤ 10000 := Nat.le_trans hsm.ins (by omega)
 have hl2 : f.steps.length ≤ 10000 := Nat.le_trans hsm.steps (by omega)
 have hl3 : f.read.size + x.s.size ≤ 9223372036854775807 := by have := hsm.read; omega
 have hl4 : f.taken.size + x.s.size ≤ 9223372036854775807 := by have := hsm.taken; omega
 obtain ⟨⟨z0, z1, z2, z3, z4, z5, z6, z7, z8, z9⟩, f0, f1, f2, f3, f4, f5, f6, f7, f8, f9⟩ := hm.blk.ten
 have hFl := hm.blk.lt
 have hne : ¬ w.heap.size + 1 = wr.heap.size := by omega
 have hne2 : ¬ wr.heap.size = w.heap.size + 1 := by omega
 have HRV : Hid (RW w (wr.alloc (.cells (evV x) 82)) wr.heap.size x (lifeV id f (.slice A1 f.ins.length c1) (.slice A2 f.ins.length c2) (.slice A3 f.steps.length c3)) (.slice A1 f.ins.length c1) f.ins.length (flat encInp f.ins) (.slice A2 f.ins.length c2) f.ins.length xw (.slice A3 f.steps.length c3) f.steps.length (flat encStp f.steps)) :=
  hide ⟨hm.alloc _, Blk.new _ _ _, hB0.out.alloc _, Hbel.out.alloc Hbel.out.size _, by simp; omega⟩
 have HRV2 := HRV
 simp only [evV] at HRV2
 clear hm hRL hsm
 have q1 : (x.k == 7) = true := by simp [h7]
 have q2 : (f.status == 0) = false := by simp [hs]
 have p4 : (x.k == 4) = false := by simp [h7]
 have p5 : (x.k == 5) = false := by simp [h7]
 have p6 : (x.k == 6) = false := by simp [h7]
 have p8 : (x.k == 8) = false := by simp [h7]
 have HA := hide (show addL id f x = f by unfold addL; rw [if_neg (fun h => hs h.2), if_neg (show ¬ x.k = 4 by omega), if_neg (show ¬ x.k = 5 by omega), if_neg (show ¬ x.k = 6 by omega), if_neg (show ¬ x.k = 8 by omega), ite_self])
 clear h7 hs
 cases hid : (x.id != id) with
 | true =>
  go_wp2_with fail
  have hR2 := HRV.out
  refine HN.out _ _ ⟨⟨_, _, _, _, _, _, _, _, _, _, _, _, _, _, _, _, _, _, _, _, _, _, _, _, _, _, _, _, _, _, _, _, _, _, _, _, _, _, _, _, _, _, _, _, _, _, _, _, _, _, _, _, _, _, _, _, _, _, _, _, _, _, _, _, _, _, _, _, _, _, _, _, _, _, _, _, _, _, _, _, _, _, _, _, _, _, _, _, _, _, _, _, _, _, _, _, _, _, _, _, _, _, _, _, _, _, _, _, _, _, _, _, _, _, _, _, _, _, _, _, _, _, _, _, _, _, _, _, _, _, _, _, _, _, _, _, _, _, _, _, _, _, _, _, _, _, _, _, _, _, _, _, _, _, _, _, _, _, _, ⟨k + 1, by omega, by go_num, hide (ofSt_some HF2.out hR2.bel hR2.zb (by rw [HA.out]; exact hR2.life) hSm.out _)⟩, rfl⟩, ?_⟩
  simp [intOf]; omega
 | false =>
  go_wp2_with fail
  have hR2 := HRV.out
  refine HN.out _ _ ⟨⟨_, _, _, _, _, _, _, _, _, _, _, _, _, _, _, _, _, _, _, _, _, _, _, _, _, _, _, _, _, _, _, _, _, _, _, _, _, _, _, _, _, _, _, _, _, _, _, _, _, _, _, _, _, _, _, _, _, _, _, _, _, _, _, _, _, _, _, _, _, _, _, _, _, _, _, _, _, _, _, _, _, _, _, _, _, _, _, _, _, _, _, _, _, _, _, _, _, _, _, _, _, _, _, _, _, _, _, _, _, _, _, _, _, _, _, _, _, _, _, _, _, _, _, _, _, _, _, _, _, _, _, _, _, _, _, _, _, _, _, _, _, _, _, _, _, _, _, _, _, _, _, _, _, _, _, _, _, _, _, ⟨k + 1, by omega, by go_num, hide (ofSt_some HF2.out hR2.bel hR2.zb (by rw [HA.out]; exact hR2.life) hSm.out _)⟩, rfl⟩, ?_⟩
  simp [intOf]; omega
set_option maxRecDepth 100000 in
set_option maxHeartbeats 16000000 in
theorem refOf_ni (R' : Ending → World → Prop) (N K : Act → World → Prop) (bc : Code) (hbc : Tryz.f45.body.bind loopBody = some bc) (b o c n k : Nat) (l : List Ev) (id ck : Int) (w wr : World) (f : LifeM) (x : Ev) (hlt : k < n) (hn : n ≤ 10000)
 (g0 : wr.cell? ⟨b, o + k * 12, none⟩ = some (.int .i64 x.k)) (g1 : wr.cell? ⟨b, o + k * 12 + 1, none⟩ = some (.int .i64 x.id)) (g2 : wr.cell? ⟨b, o + k * 12 + 2, none⟩ = some (.int .i64 x.n)) (g3 : wr.cell? ⟨b, o + k * 12 + 3, none⟩ = some (.int .i64 x.tick)) (g4 : wr.cell? ⟨b, o + k * 12 + 4, none⟩ = some (.string x.s)) (g5 : wr.cell? ⟨b, o + k * 12 + 5, none⟩ = some (.int .i64 x.err)) (g6 : wr.cell? ⟨b, o + k * 12 + 6, none⟩ = some (.int .i64 x.st.tick)) (g7 : wr.cell? ⟨b, o + k * 12 + 7, none⟩ = some (.int .i64 x.st.at_)) (g8 : wr.cell? ⟨b, o + k * 12 + 8, none⟩ = some (.int .i64 x.st.what)) (g9 : wr.cell? ⟨b, o + k * 12 + 9, none⟩ = some (.int .i64 x.st.arm)) (g10 : wr.cell? ⟨b, o + k * 12 + 10, none⟩ = some (.int .i64 x.st.n)) (g11 : wr.cell? ⟨b, o + k * 12 + 11, none⟩ = some (.int .i64 x.st.status))
 (hxs : x.s.size ≤ 100) (hB0' : Blk wr w.heap.size 92 zeroV) (hbel : Below w.heap.size w wr) (hRL : RLAt wr (w.heap.size + 1) (w.heap.size + 1) id f) (hsm : Small f k) (HF2 : Hid (lifeGo id 0 (l.take (k + 1)) = some (addL id f x))) (h7 : ¬ x.k = 7) (hi : ¬ x.id = id)
 (u10 u12 u13 u14 u15 u16 u17 u18 u19 u20 u21 u22 u23 u24 u25 u26 u27 u28 u29 u30 u31 u32 u33 u34 u35 u36 u37 u38 u39 u40 u41 u42 u43 u44 u45 u46 u47 u48 u49 u50 u51 u52 u53 u54 u55 u56 u57 u58 u59 u60 u61 u62 u63 u64 u65 u66 u67 u68 u69 u70 u71 u72 u73 u74 u75 u76 u77 u78 u79 u80 u81 u82 u83 u84 u85 u86 u87 u88 u89 u90 u91 u92 u93 u94 u95 u96 u97 u98 u99 u100 u101 u102 u103 u104 u105 u106 u107 u108 u109 u110 u111 u112 u113 u114 u115 u116 u117 u118 u119 u120 u121 u122 u123 u124 u125 u126 u127 u128 u129 u130 u131 u132 u133 u134 u135 u136 u137 u138 u139 u140 u141 u142 u143 u144 u145 u146 u147 u148 u149 u150 u151 u152 u153 u154 u155 u156 u157 u158 u159 u160 u161 u162 u163 u164 u165 u166 : Value) (hN : ∀ a' w', RoundN w id l n (some ⟨b, o, none⟩) c k a' w' → N a' w') :
 bc.wp Tryz.prog (Exit.then N (Exit.inBlock 0 (Exit.then K (bodyPost Tryz.prog Tryz.f45 R')))) { tmps := #[.slice (some ⟨b, o, none⟩) n c, .int .i64 id, undef, undef, .pointer (some ⟨w.heap.size, 0, none⟩), .bool false, .pointer (some ⟨w.heap.size + 1, 0, none⟩), .bool true, (.int .i64 ck), .int .i64 k, u10, .agg #[.int .i64 0, .int .i64 0, .int .i64 0, .slice none 0 0, .slice none 0 0, .slice none 0 0, .string ⟨#[]⟩, .string ⟨#[]⟩, .bool false, .int .i64 0], u12, u13, u14, u15, u16, u17, u18, u19, u20, u21, u22, u23, u24, u25, u26, u27, u28, u29, u30, u31, u32, u33, u34, u35, u36, u37, u38, u39, u40, u41, u42, u43, u44, u45, u46, u47, u48, u49, u50, u51, u52, u53, u54, u55, u56, u57, u58, u59, u60, u61, u62, u63, u64, u65, u66, u67, u68, u69, u70, u71, u72, u73, u74, u75, u76, u77, u78, u79, u80, u81, u82, u83, u84, u85, u86, u87, u88, u89, u90, u91, u92, u93, u94, u95, u96, u97, u98, u99, u100, u101, u102, u103, u104, u105, u106, u107, u108, u109, u110, u111, u112, u113, u114, u115, u116, u117, u118, u119, u120, u121, u122, u123, u124, u125, u126, u127, u128, u129, u130, u131, u132, u133, u134, u135, u136, u137, u138, u139, u140, u141, u142, u143, u144, u145, u146, u147, u148, u149, u150, u151, u152, u153, u154, u155, u156, u157, u158, u159, u160, u161, u162, u163, u164, u165, u166, undef, undef], defers := [] } wr := by
 injection hbc with hbc
 subst hbc
 have hB0 := hide hB0'
 have Hbel := hide hbel
 have HN := hide hN
 clear hB0' hbel hN
 obtain ⟨ii, hii, hiz0, hiz1, hiz2⟩ := info_parts Tryz.infoInp
 obtain ⟨io, hio, hoz0, hoz1, hoz2⟩ := info_parts Tryz.infoOut23
 obtain ⟨is, his, hsz0, hsz1, hsz2⟩ := info_parts Tryz.infoStp
 have hSm := hide (hsm.add (id := id) x hxs)
 obtain ⟨vi, vw, vs, xw, hm⟩ := hRL.ex
 obtain ⟨A1, c1, rfl, hc1⟩ := own_cap hm.oi
 obtain ⟨A2, c2, rfl, hc2⟩ := own_cap hm.ow
 obtain ⟨A3, c3, rfl, hc3⟩ := own_cap hm.os
 have hl1 : f.ins.length ≤ 10000 := Nat.le_trans hsm.ins (by omega)
 have hl2 : f.steps.length ≤ 10000 := Nat.le_trans hsm.steps (by omega)
 have hl3 : f.read.size + x.s.size ≤ 9223372036854775807 := by have := hsm.read; omega
 have hl4 : f.taken.size + x.s.size ≤ 9223372036854775807 := by have := hsm.taken; omega
 obtain ⟨⟨z0, z1, z2, z3, z4, z5, z6, z7, z8, z9⟩, f0, f1, f2, f3, f4, f5, f6, f7, f8, f9⟩ := hm.blk.ten
 have hFl := hm.blk.lt
 have hne : ¬ w.heap.size + 1 = wr.heap.size := by omega
 have hne2 : ¬ wr.heap.size = w.heap.size + 1 := by omega
 have HRV : Hid (RW w (wr.alloc (.cells (evV x) 82)) wr.heap.size x (lifeV id f (.slice A1 f.ins.length c1) (.slice A2 f.ins.length c2) (.slice A3 f.steps.length c3)) (.slice A1 f.ins.length c1) f.ins.length (flat encInp f.ins) (.slice A2 f.ins.length c2) f.ins.length xw (.slice A3 f.steps.length c3) f.steps.length (flat encStp f.steps)) :=
  hide ⟨hm.alloc _, Blk.new _ _ _, hB0.out.alloc _, Hbel.out.alloc Hbel.out.size _, by simp; omega⟩
 have HRV2 := HRV
 simp only [evV] at HRV2
 clear hm hRL hsm
 have q1 : (x.k == 7) = false := by simp [h7]
 have q2 : (x.id != id) = true := by simp [hi]
 have HA := hide (show addL id f x = f by unfold addL; rw [if_neg (fun h => h7 h.1), if_pos hi])
 clear h7 hi
 go_wp2_with fail
 have hR2 := HRV.out
 refine HN.out _ _ ⟨⟨_, _, _, _, _, _, _, _, _, _, _, _, _, _, _, _, _, _, _, _, _, _, _, _, _, _, _, _, _, _, _, _, _, _, _, _, _, _, _, _, _, _, _, _, _, _, _, _, _, _, _, _, _, _, _, _, _, _, _, _, _, _, _, _, _, _, _, _, _, _, _, _, _, _, _, _, _, _, _, _, _, _, _, _, _, _, _, _, _, _, _, _, _, _, _, _, _, _, _, _, _, _, _, _, _, _, _, _, _, _, _, _, _, _, _, _, _, _, _, _, _, _, _, _, _, _, _, _, _, _, _, _, _, _, _, _, _, _, _, _, _, _, _, _, _, _, _, _, _, _, _, _, _, _, _, _, _, _, _, ⟨k + 1, by omega, by go_num, hide (ofSt_some HF2.out hR2.bel hR2.zb (by rw [HA.out]; exact hR2.life) hSm.out _)⟩, rfl⟩, ?_⟩
 simp [intOf]; omega
set_option maxRecDepth 100000 in
set_option maxHeartbeats 16000000 in
theorem refOf_nn (R' : Ending → World → Prop) (N K : Act → World → Prop) (bc : Code) (hbc : Tryz.f45.body.bind loopBody = some bc) (b o c n k : Nat) (l : List Ev) (id ck : Int) (w wr : World) (f : LifeM) (x : Ev) (hlt : k < n) (hn : n ≤ 10000)
 (g0 : wr.cell? ⟨b, o + k * 12, none⟩ = some (.int .i64 x.k)) (g1 : wr.cell? ⟨b, o + k * 12 + 1, none⟩ = some (.int .i64 x.id)) (g2 : wr.cell? ⟨b, o + k * 12 + 2, none⟩ = some (.int .i64 x.n)) (g3 : wr.cell? ⟨b, o + k * 12 + 3, none⟩ = some (.int .i64 x.tick)) (g4 : wr.cell? ⟨b, o + k * 12 + 4, none⟩ = some (.string x.s)) (g5 : wr.cell? ⟨b, o + k * 12 + 5, none⟩ = some (.int .i64 x.err)) (g6 : wr.cell? ⟨b, o + k * 12 + 6, none⟩ = some (.int .i64 x.st.tick)) (g7 : wr.cell? ⟨b, o + k * 12 + 7, none⟩ = some (.int .i64 x.st.at_)) (g8 : wr.cell? ⟨b, o + k * 12 + 8, none⟩ = some (.int .i64 x.st.what)) (g9 : wr.cell? ⟨b, o + k * 12 + 9, none⟩ = some (.int .i64 x.st.arm)) (g10 : wr.cell? ⟨b, o + k * 12 + 10, none⟩ = some (.int .i64 x.st.n)) (g11 : wr.cell? ⟨b, o + k * 12 + 11, none⟩ = some (.int .i64 x.st.status))
 (hxs : x.s.size ≤ 100) (hB0' : Blk wr w.heap.size 92 zeroV) (hbel : Below w.heap.size w wr) (hRL : RLAt wr (w.heap.size + 1) (w.heap.size + 1) id f) (hsm : Small f k) (HF2 : Hid (lifeGo id 0 (l.take (k + 1)) = some (addL id f x))) (h7 : ¬ x.k = 7) (hi : x.id = id) (h4 : ¬ x.k = 4) (h5 : ¬ x.k = 5) (h6 : ¬ x.k = 6) (h8 : ¬ x.k = 8)
 (u10 u12 u13 u14 u15 u16 u17 u18 u19 u20 u21 u22 u23 u24 u25 u26 u27 u28 u29 u30 u31 u32 u33 u34 u35 u36 u37 u38 u39 u40 u41 u42 u43 u44 u45 u46 u47 u48 u49 u50 u51 u52 u53 u54 u55 u56 u57 u58 u59 u60 u61 u62 u63 u64 u65 u66 u67 u68 u69 u70 u71 u72 u73 u74 u75 u76 u77 u78 u79 u80 u81 u82 u83 u84 u85 u86 u87 u88 u89 u90 u91 u92 u93 u94 u95 u96 u97 u98 u99 u100 u101 u102 u103 u104 u105 u106 u107 u108 u109 u110 u111 u112 u113 u114 u115 u116 u117 u118 u119 u120 u121 u122 u123 u124 u125 u126 u127 u128 u129 u130 u131 u132 u133 u134 u135 u136 u137 u138 u139 u140 u141 u142 u143 u144 u145 u146 u147 u148 u149 u150 u151 u152 u153 u154 u155 u156 u157 u158 u159 u160 u161 u162 u163 u164 u165 u166 : Value) (hN : ∀ a' w', RoundN w id l n (some ⟨b, o, none⟩) c k a' w' → N a' w') :
 bc.wp Tryz.prog (Exit.then N (Exit.inBlock 0 (Exit.then K (bodyPost Tryz.prog Tryz.f45 R')))) { tmps := #[.slice (some ⟨b, o, none⟩) n c, .int .i64 id, undef, undef, .pointer (some ⟨w.heap.size, 0, none⟩), .bool false, .pointer (some ⟨w.heap.size + 1, 0, none⟩), .bool true, (.int .i64 ck), .int .i64 k, u10, .agg #[.int .i64 0, .int .i64 0, .int .i64 0, .slice none 0 0, .slice none 0 0, .slice none 0 0, .string ⟨#[]⟩, .string ⟨#[]⟩, .bool false, .int .i64 0], u12, u13, u14, u15, u16, u17, u18, u19, u20, u21, u22, u23, u24, u25, u26, u27, u28, u29, u30, u31, u32, u33, u34, u35, u36, u37, u38, u39, u40, u41, u42, u43, u44, u45, u46, u47, u48, u49, u50, u51, u52, u53, u54, u55, u56, u57, u58, u59, u60, u61, u62, u63, u64, u65, u66, u67, u68, u69, u70, u71, u72, u73, u74, u75, u76, u77, u78, u79, u80, u81, u82, u83, u84, u85, u86, u87, u88, u89, u90, u91, u92, u93, u94, u95, u96, u97, u98, u99, u100, u101, u102, u103, u104, u105, u106, u107, u108, u109, u110, u111, u112, u113, u114, u115, u116, u117, u118, u119, u120, u121, u122, u123, u124, u125, u126, u127, u128, u129, u130, u131, u132, u133, u134, u135, u136, u137, u138, u139, u140, u141, u142, u143, u144, u145, u146, u147, u148, u149, u150, u151, u152, u153, u154, u155, u156, u157, u158, u159, u160, u161, u162, u163, u164, u165, u166, undef, undef], defers := [] } wr := by
 injection hbc with hbc
 subst hbc
 have hB0 := hide hB0'
 have Hbel := hide hbel
 have HN := hide hN
 clear hB0' hbel hN
 obtain ⟨ii, hii, hiz0, hiz1, hiz2⟩ := info_parts Tryz.infoInp
 obtain ⟨io, hio, hoz0, hoz1, hoz2⟩ := info_parts Tryz.infoOut23
 obtain ⟨is, his, hsz0, hsz1, hsz2⟩ := info_parts Tryz.infoStp
 have hSm := hide (hsm.add (id := id) x hxs)
 obtain ⟨vi, vw, vs, xw, hm⟩ := hRL.ex
 obtain ⟨A1, c1, rfl, hc1⟩ := own_cap hm.oi
 obtain ⟨A2, c2, rfl, hc2⟩ := own_cap hm.ow
 obtain ⟨A3, c3, rfl, hc3⟩ := own_cap hm.os
 have hl1 : f.ins.length ≤ 10000 := Nat.le_trans hsm.ins (by omega)
 have hl2 : f.steps.length ≤ 10000 := Nat.le_trans hsm.steps (by omega)
 have hl3 : f.read.size + x.s.size ≤ 9223372036854775807 := by have := hsm.read; omega
 have hl4 : f.taken.size + x.s.size ≤ 9223372036854775807 := by have := hsm.taken; omega
 obtain ⟨⟨z0, z1, z2, z3, z4, z5, z6, z7, z8, z9⟩, f0, f1, f2, f3, f4, f5, f6, f7, f8, f9⟩ := hm.blk.ten
 have hFl := hm.blk.lt
 have hne : ¬ w.heap.size + 1 = wr.heap.size := by omega
 have hne2 : ¬ wr.heap.size = w.heap.size + 1 := by omega
 have HRV : Hid (RW w (wr.alloc (.cells (evV x) 82)) wr.heap.size x (lifeV id f (.slice A1 f.ins.length c1) (.slice A2 f.ins.length c2) (.slice A3 f.steps.length c3)) (.slice A1 f.ins.length c1) f.ins.length (flat encInp f.ins) (.slice A2 f.ins.length c2) f.ins.length xw (.slice A3 f.steps.length c3) f.steps.length (flat encStp f.steps)) :=
  hide ⟨hm.alloc _, Blk.new _ _ _, hB0.out.alloc _, Hbel.out.alloc Hbel.out.size _, by simp; omega⟩
 have HRV2 := HRV
 simp only [evV] at HRV2
 clear hm hRL hsm
 have q1 : (x.k == 7) = false := by simp [h7]
 have q2 : (x.id != id) = false := by simp [hi]
 have p4 : (x.k == 4) = false := by simp [h4]
 have p5 : (x.k == 5) = false := by simp [h5]
 have p6 : (x.k == 6) = false := by simp [h6]
 have p8 : (x.k == 8) = false := by simp [h8]
 have HA := hide (show addL id f x = f by unfold addL; rw [if_neg (fun h => h7 h.1), if_neg (show ¬ x.id ≠ id by simpa using hi), if_neg h4, if_neg h5, if_neg h6, if_neg h8])
 clear h7 hi h4 h5 h6 h8
 go_wp2_with fail
 have hR2 := HRV.out
 refine HN.out _ _ ⟨⟨_, _, _, _, _, _, _, _, _, _, _, _, _, _, _, _, _, _, _, _, _, _, _, _, _, _, _, _, _, _, _, _, _, _, _, _, _, _, _, _, _, _, _, _, _, _, _, _, _, _, _, _, _, _, _, _, _, _, _, _, _, _, _, _, _, _, _, _, _, _, _, _, _, _, _, _, _, _, _, _, _, _, _, _, _, _, _, _, _, _, _, _, _, _, _, _, _, _, _, _, _, _, _, _, _, _, _, _, _, _, _, _, _, _, _, _, _, _, _, _, _, _, _, _, _, _, _, _, _, _, _, _, _, _, _, _, _, _, _, _, _, _, _, _, _, _, _, _, _, _, _, _, _, _, _, _, _, _, _, ⟨k + 1, by omega, by go_num, hide (ofSt_some HF2.out hR2.bel hR2.zb (by rw [HA.out]; exact hR2.life) hSm.out _)⟩, rfl⟩, ?_⟩
 simp [intOf]; omega
end Go.Proofs.YtdmdohjdmnmabaaGreat
