/- The page's life of one: a round ahead of its opening. Conditions: those of each theorem. -/
import Derived.Test.YthnjebpbokmemaaDoorRefOfA
namespace Go.Proofs.YthnjebpbokmemaaDoor
open Go.RowKit
set_option linter.unusedVariables false

set_option maxRecDepth 100000 in
set_option maxHeartbeats 16000000 in
theorem refOf_z (R' : Ending → World → Prop) (N K : Act → World → Prop) (bc : Code) (hbc : Tryd.f24.body.bind loopBody = some bc) (b o c n k : Nat) (l : List Ev) (id ck : Int) (w wr : World) (x : Ev) (hlt : k < n) (hn : n ≤ 10000)
    (g0 : wr.cell? ⟨b, o + k * 12, none⟩ = some (.int .i64 x.k)) (g1 : wr.cell? ⟨b, o + k * 12 + 1, none⟩ = some (.int .i64 x.id)) (g2 : wr.cell? ⟨b, o + k * 12 + 2, none⟩ = some (.int .i64 x.n)) (g3 : wr.cell? ⟨b, o + k * 12 + 3, none⟩ = some (.int .i64 x.tick)) (g4 : wr.cell? ⟨b, o + k * 12 + 4, none⟩ = some (.string x.s)) (g5 : wr.cell? ⟨b, o + k * 12 + 5, none⟩ = some (.int .i64 x.err)) (g6 : wr.cell? ⟨b, o + k * 12 + 6, none⟩ = some (.int .i64 x.st.tick)) (g7 : wr.cell? ⟨b, o + k * 12 + 7, none⟩ = some (.int .i64 x.st.at_)) (g8 : wr.cell? ⟨b, o + k * 12 + 8, none⟩ = some (.int .i64 x.st.what)) (g9 : wr.cell? ⟨b, o + k * 12 + 9, none⟩ = some (.int .i64 x.st.arm)) (g10 : wr.cell? ⟨b, o + k * 12 + 10, none⟩ = some (.int .i64 x.st.n)) (g11 : wr.cell? ⟨b, o + k * 12 + 11, none⟩ = some (.int .i64 x.st.status))
    (hxs : x.s.size ≤ 100) (hB0' : Blk wr w.heap.size 56 zeroV) (hbel : Below w.heap.size w wr) (hB1 : Blk wr (w.heap.size + 1) 56 zeroV) (HF2 : Hid (lifeGo id 0 (l.take (k + 1)) = if opens id x then some (life0 x.n (clockOf 0 (l.take k))) else none)) (HC : Hid (clockOf 0 (l.take (k + 1)) = if x.k = 1 then x.tick else clockOf 0 (l.take k))) 
    (u10 u12 u13 u14 u15 u16 u17 u18 u19 u20 u21 u22 u23 u24 u25 u26 u27 u28 u29 u30 u31 u32 u33 u34 u35 u36 u37 u38 u39 u40 u41 u42 u43 u44 u45 u46 u47 u48 u49 u50 u51 u52 u53 u54 u55 u56 u57 u58 u59 u60 u61 u62 u63 u64 u65 u66 u67 u68 u69 u70 u71 u72 u73 u74 u75 u76 u77 u78 u79 u80 u81 u82 u83 u84 u85 u86 u87 u88 u89 u90 u91 u92 u93 u94 u95 u96 u97 u98 u99 u100 u101 u102 u103 u104 u105 u106 u107 u108 u109 u110 u111 u112 u113 u114 u115 u116 u117 u118 u119 u120 u121 u122 u123 u124 u125 u126 u127 u128 u129 u130 u131 u132 u133 u134 u135 u136 u137 u138 u139 u140 u141 u142 u143 u144 u145 u146 u147 u148 u149 u150 u151 u152 u153 u154 u155 u156 u157 u158 u159 u160 u161 u162 u163 u164 u165 u166 : Value) (hN : ∀ a' w', RoundN w id l n (some ⟨b, o, none⟩) c k a' w' → N a' w') :
    bc.wp Tryd.prog (Exit.then N (Exit.inBlock 0 (Exit.then K (bodyPost Tryd.prog Tryd.f24 R')))) { tmps := #[.slice (some ⟨b, o, none⟩) n c, .int .i64 id, undef, undef, .pointer (some ⟨w.heap.size, 0, none⟩), .bool false, .pointer (some ⟨w.heap.size + 1, 0, none⟩), .bool false, (.int .i64 (clockOf 0 (l.take k))), .int .i64 k, u10, .agg #[.int .i64 0, .int .i64 0, .int .i64 0, .slice none 0 0, .slice none 0 0, .slice none 0 0, .string ⟨#[]⟩, .string ⟨#[]⟩, .bool false, .int .i64 0], u12, u13, u14, u15, u16, u17, u18, u19, u20, u21, u22, u23, u24, u25, u26, u27, u28, u29, u30, u31, u32, u33, u34, u35, u36, u37, u38, u39, u40, u41, u42, u43, u44, u45, u46, u47, u48, u49, u50, u51, u52, u53, u54, u55, u56, u57, u58, u59, u60, u61, u62, u63, u64, u65, u66, u67, u68, u69, u70, u71, u72, u73, u74, u75, u76, u77, u78, u79, u80, u81, u82, u83, u84, u85, u86, u87, u88, u89, u90, u91, u92, u93, u94, u95, u96, u97, u98, u99, u100, u101, u102, u103, u104, u105, u106, u107, u108, u109, u110, u111, u112, u113, u114, u115, u116, u117, u118, u119, u120, u121, u122, u123, u124, u125, u126, u127, u128, u129, u130, u131, u132, u133, u134, u135, u136, u137, u138, u139, u140, u141, u142, u143, u144, u145, u146, u147, u148, u149, u150, u151, u152, u153, u154, u155, u156, u157, u158, u159, u160, u161, u162, u163, u164, u165, u166, undef, undef], defers := [] } wr := by
  injection hbc with hbc
  subst hbc
  have hB0 := hide hB0'
  have Hbel := hide hbel
  have HN := hide hN
  clear hB0' hbel hN
  have HB1 := hide hB1
  obtain ⟨⟨z0, z1, z2, z3, z4, z5, z6, z7, z8, z9⟩, f0, f1, f2, f3, f4, f5, f6, f7, f8, f9⟩ := (hB1.alloc (.cells (evV x) 48)).ten
  have hFl := hB1.lt
  have hne : ¬ w.heap.size + 1 = wr.heap.size := by omega
  have hne2 : ¬ wr.heap.size = w.heap.size + 1 := by omega
  obtain ⟨⟨y0, y1, y2, y3, y4, y5, y6, y7, y8, y9⟩, h0, h1, h2, h3, h4, h5, h6, h7, h8, h9⟩ := hB1.ten
  simp only [evV] at z0 z1 z2 z3 z4 z5 z6 z7 z8 z9 f0 f1 f2 f3 f4 f5 f6 f7 f8 f9
  clear hB1
  cases k1 : (x.k == 1) with
  | true =>
    have e1 : x.k = 1 := by simpa using k1
    have k2 : (x.k == 2) = false := by simp [e1]
    have ho : opens id x = false := by simp [opens, e1]
    have HO := hide ho
    have E1 := hide e1
    clear ho e1
    go_wp2_with fail
    refine HN.out _ _ ⟨⟨_, _, _, _, _, _, _, _, _, _, _, _, _, _, _, _, _, _, _, _, _, _, _, _, _, _, _, _, _, _, _, _, _, _, _, _, _, _, _, _, _, _, _, _, _, _, _, _, _, _, _, _, _, _, _, _, _, _, _, _, _, _, _, _, _, _, _, _, _, _, _, _, _, _, _, _, _, _, _, _, _, _, _, _, _, _, _, _, _, _, _, _, _, _, _, _, _, _, _, _, _, _, _, _, _, _, _, _, _, _, _, _, _, _, _, _, _, _, _, _, _, _, _, _, _, _, _, _, _, _, _, _, _, _, _, _, _, _, _, _, _, _, _, _, _, _, _, _, _, _, _, _, _, _, _, _, _, _, _, ⟨k + 1, by omega, by go_num, hide (ofSt_none (by rw [HF2.out, HO.out]; rfl) ?_ (Hbel.out.alloc Hbel.out.size _) (hB0.out.alloc _) (HB1.out.alloc _))⟩, rfl⟩, ?_⟩
    · rw [HC.out, if_pos E1.out]
    simp [intOf]; omega
  | false =>
    have e1 := hide (show ¬ x.k = 1 by simpa using k1)
    cases k2 : (x.k == 2) with
    | false =>
      have HO := hide (show opens id x = false by simp only [opens, decide_eq_false_iff_not]; intro h; simp [h.1] at k2)
      go_wp2_with fail
      refine HN.out _ _ ⟨⟨_, _, _, _, _, _, _, _, _, _, _, _, _, _, _, _, _, _, _, _, _, _, _, _, _, _, _, _, _, _, _, _, _, _, _, _, _, _, _, _, _, _, _, _, _, _, _, _, _, _, _, _, _, _, _, _, _, _, _, _, _, _, _, _, _, _, _, _, _, _, _, _, _, _, _, _, _, _, _, _, _, _, _, _, _, _, _, _, _, _, _, _, _, _, _, _, _, _, _, _, _, _, _, _, _, _, _, _, _, _, _, _, _, _, _, _, _, _, _, _, _, _, _, _, _, _, _, _, _, _, _, _, _, _, _, _, _, _, _, _, _, _, _, _, _, _, _, _, _, _, _, _, _, _, _, _, _, _, _, ⟨k + 1, by omega, by go_num, hide (ofSt_none (by rw [HF2.out, HO.out]; rfl) ?_ (Hbel.out.alloc Hbel.out.size _) (hB0.out.alloc _) (HB1.out.alloc _))⟩, rfl⟩, ?_⟩
      · rw [HC.out, if_neg e1.out]
      simp [intOf]; omega
    | true =>
      have e2 := hide (show x.k = 2 by simpa using k2)
      cases k3 : (x.id == id) with
      | false =>
        have HO := hide (show opens id x = false by simp only [opens, decide_eq_false_iff_not]; intro h; simp [h.2] at k3)
        go_wp2_with fail
        refine HN.out _ _ ⟨⟨_, _, _, _, _, _, _, _, _, _, _, _, _, _, _, _, _, _, _, _, _, _, _, _, _, _, _, _, _, _, _, _, _, _, _, _, _, _, _, _, _, _, _, _, _, _, _, _, _, _, _, _, _, _, _, _, _, _, _, _, _, _, _, _, _, _, _, _, _, _, _, _, _, _, _, _, _, _, _, _, _, _, _, _, _, _, _, _, _, _, _, _, _, _, _, _, _, _, _, _, _, _, _, _, _, _, _, _, _, _, _, _, _, _, _, _, _, _, _, _, _, _, _, _, _, _, _, _, _, _, _, _, _, _, _, _, _, _, _, _, _, _, _, _, _, _, _, _, _, _, _, _, _, _, _, _, _, _, _, ⟨k + 1, by omega, by go_num, hide (ofSt_none (by rw [HF2.out, HO.out]; rfl) ?_ (Hbel.out.alloc Hbel.out.size _) (hB0.out.alloc _) (HB1.out.alloc _))⟩, rfl⟩, ?_⟩
        · rw [HC.out, if_neg e1.out]
        simp [intOf]; omega
      | true =>
        have HO := hide (show opens id x = true by simp only [opens, decide_eq_true_eq]; exact ⟨e2.out, by simpa using k3⟩)
        go_wp2_with fail
        have hb10 := below_put10 Hbel.out (show w.heap.size ≤ w.heap.size + 1 by omega) (.int .i64 id) (.int .i64 x.n) (.int .i64 (clockOf 0 (l.take k))) (.slice none 0 0) (.slice none 0 0) (.slice none 0 0) (.string ⟨#[]⟩) (.string ⟨#[]⟩) (.bool false) (.int .i64 0)
        refine HN.out _ _ ⟨⟨_, _, _, _, _, _, _, _, _, _, _, _, _, _, _, _, _, _, _, _, _, _, _, _, _, _, _, _, _, _, _, _, _, _, _, _, _, _, _, _, _, _, _, _, _, _, _, _, _, _, _, _, _, _, _, _, _, _, _, _, _, _, _, _, _, _, _, _, _, _, _, _, _, _, _, _, _, _, _, _, _, _, _, _, _, _, _, _, _, _, _, _, _, _, _, _, _, _, _, _, _, _, _, _, _, _, _, _, _, _, _, _, _, _, _, _, _, _, _, _, _, _, _, _, _, _, _, _, _, _, _, _, _, _, _, _, _, _, _, _, _, _, _, _, _, _, _, _, _, _, _, _, _, _, _, _, _, _, _, ⟨k + 1, by omega, by go_num, hide (ofSt_some (by rw [HF2.out, HO.out]; rfl) (hb10.alloc hb10.size _) ((hB0.out.far10 (by omega) _ _ _ _ _ _ _ _ _ _).alloc _) ((open_life HB1.out).only ((Only.refl NoBlk _).alloc _)) ⟨Nat.zero_le _, Nat.zero_le _, Nat.zero_le _, Nat.zero_le _⟩ _)⟩, rfl⟩, ?_⟩
        simp [intOf]; omega
end Go.Proofs.YthnjebpbokmemaaDoor
