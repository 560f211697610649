/- Parts of a chain of lemmas: RefOfZ, RefOf. Conditions: those of each theorem. -/
import Derived.Test.YtdmdohjdmnmabaaGreatQw26
import Derived.Test.YtdmdohjdmnmabaaGreatQw27
import Derived.Test.YtdmdohjdmnmabaaGreatQw28
import Derived.Test.YtdmdohjdmnmabaaGreatQw29
import Derived.Test.YtdmdohjdmnmabaaGreatQw30
import Derived.Test.YtdmdohjdmnmabaaGreatQw31
import Derived.Test.YtdmdohjdmnmabaaGreatQw32
namespace Go.Proofs.YtdmdohjdmnmabaaGreat
open Go.RowKit
set_option linter.unusedVariables false

set_option maxRecDepth 100000 in
set_option maxHeartbeats 16000000 in
theorem refOf_z (R' : Ending → World → Prop) (N K : Act → World → Prop) (bc : Code) (hbc : Tryz.f45.body.bind loopBody = some bc) (b o c n k : Nat) (l : List Ev) (id ck : Int) (w wr : World) (x : Ev) (hlt : k < n) (hn : n ≤ 10000)
 (g0 : wr.cell? ⟨b, o + k * 12, none⟩ = some (.int .i64 x.k)) (g1 : wr.cell? ⟨b, o + k * 12 + 1, none⟩ = some (.int .i64 x.id)) (g2 : wr.cell? ⟨b, o + k * 12 + 2, none⟩ = some (.int .i64 x.n)) (g3 : wr.cell? ⟨b, o + k * 12 + 3, none⟩ = some (.int .i64 x.tick)) (g4 : wr.cell? ⟨b, o + k * 12 + 4, none⟩ = some (.string x.s)) (g5 : wr.cell? ⟨b, o + k * 12 + 5, none⟩ = some (.int .i64 x.err)) (g6 : wr.cell? ⟨b, o + k * 12 + 6, none⟩ = some (.int .i64 x.st.tick)) (g7 : wr.cell? ⟨b, o + k * 12 + 7, none⟩ = some (.int .i64 x.st.at_)) (g8 : wr.cell? ⟨b, o + k * 12 + 8, none⟩ = some (.int .i64 x.st.what)) (g9 : wr.cell? ⟨b, o + k * 12 + 9, none⟩ = some (.int .i64 x.st.arm)) (g10 : wr.cell? ⟨b, o + k * 12 + 10, none⟩ = some (.int .i64 x.st.n)) (g11 : wr.cell? ⟨b, o + k * 12 + 11, none⟩ = some (.int .i64 x.st.status))
 (hxs : x.s.size ≤ 100) (hB0' : Blk wr w.heap.size 92 zeroV) (hbel : Below w.heap.size w wr) (hB1 : Blk wr (w.heap.size + 1) 92 zeroV) (HF2 : Hid (lifeGo id 0 (l.take (k + 1)) = if opens id x then some (life0 x.n (clockOf 0 (l.take k))) else none)) (HC : Hid (clockOf 0 (l.take (k + 1)) = if x.k = 1 then x.tick else clockOf 0 (l.take k))) 
 (u10 u12 u13 u14 u15 u16 u17 u18 u19 u20 u21 u22 u23 u24 u25 u26 u27 u28 u29 u30 u31 u32 u33 u34 u35 u36 u37 u38 u39 u40 u41 u42 u43 u44 u45 u46 u47 u48 u49 u50 u51 u52 u53 u54 u55 u56 u57 u58 u59 u60 u61 u62 u63 u64 u65 u66 u67 u68 u69 u70 u71 u72 u73 u74 u75 u76 u77 u78 u79 u80 u81 u82 u83 u84 u85 u86 u87 u88 u89 u90 u91 u92 u93 u94 u95 u96 u97 u98 u99 u100 u101 u102 u103 u104 u105 u106 u107 u108 u109 u110 u111 u112 u113 u114 u115 u116 u117 u118 u119 u120 u121 u122 u123 u124 u125 u126 u127 u128 u129 u130 u131 u132 u133 u134 u135 u136 u137 u138 u139 u140 u141 u142 u143 u144 u145 u146 u147 u148 u149 u150 u151 u152 u153 u154 u155 u156 u157 u158 u159 u160 u161 u162 u163 u164 u165 u166 : Value) (hN : ∀ a' w', RoundN w id l n (some ⟨b, o, none⟩) c k a' w' → N a' w') :
 bc.wp Tryz.prog (Exit.then N (Exit.inBlock 0 (Exit.then K (bodyPost Tryz.prog Tryz.f45 R')))) { tmps := #[.slice (some ⟨b, o, none⟩) n c, .int .i64 id, undef, undef, .pointer (some ⟨w.heap.size, 0, none⟩), .bool false, .pointer (some ⟨w.heap.size + 1, 0, none⟩), .bool false, (.int .i64 (clockOf 0 (l.take k))), .int .i64 k, u10, .agg #[.int .i64 0, .int .i64 0, .int .i64 0, .slice none 0 0, .slice none 0 0, .slice none 0 0, .string ⟨#[]⟩, .string ⟨#[]⟩, .bool false, .int .i64 0], u12, u13, u14, u15, u16, u17, u18, u19, u20, u21, u22, u23, u24, u25, u26, u27, u28, u29, u30, u31, u32, u33, u34, u35, u36, u37, u38, u39, u40, u41, u42, u43, u44, u45, u46, u47, u48, u49, u50, u51, u52, u53, u54, u55, u56, u57, u58, u59, u60, u61, u62, u63, u64, u65, u66, u67, u68, u69, u70, u71, u72, u73, u74, u75, u76, u77, u78, u79, u80, u81, u82, u83, u84, u85, u86, u87, u88, u89, u90, u91, u92, u93, u94, u95, u96, u97, u98, u99, u100, u101, u102, u103, u104, u105, u106, u107, u108, u109, u110, u111, u112, u113, u114, u115, u116, u117, u118, u119, u120, u121, u122, u123, u124, u125, u126, u127, u128, u129, u130, u131, u132, u133, u134, u135, u136, u137, u138, u139, u140, u141, u142, u143, u144, u145, u146, u147, u148, u149, u150, u151, u152, u153, u154, u155, u156, u157, u158, u159, u160, u161, u162, u163, u164, u165, u166, undef, undef], defers := [] } wr := by
 injection hbc with hbc
 subst hbc
 have hB0 := hide hB0'
 have Hbel := hide hbel
 have HN := hide hN
 clear hB0' hbel hN
 have HB1 := hide hB1
 obtain ⟨⟨z0, z1, z2, z3, z4, z5, z6, z7, z8, z9⟩, f0, f1, f2, f3, f4, f5, f6, f7, f8, f9⟩ := (hB1.alloc (.cells (evV x) 82)).ten
 have hFl := hB1.lt
 have hne : ¬ w.heap.size + 1 = wr.heap.size := by omega
 have hne2 : ¬ wr.heap.size = w.heap.size + 1 := by omega
 obtain ⟨⟨y0, y1, y2, y3, y4, y5, y6, y7, y8, y9⟩, h0, h1, h2, h3, h4, h5, h6, h7, h8, h9⟩ := hB1.ten
 simp only [evV] at z0 z1 z2 z3 z4 z5 z6 z7 z8 z9 f0 f1 f2 f3 f4 f5 f6 f7 f8 f9
 clear hB1
 cases k1 : (x.k == 1) with
 | true =>
  have e1 : x.k = 1 := by simpa using k1
  have k2 : (x.k == 2) = false := by simp [e1]
  have ho : opens id x = false := by simp [opens, e1]
  have HO := hide ho
  have E1 := hide e1
  clear ho e1
  go_wp2_with fail
  refine HN.out _ _ ⟨⟨_, _, _, _, _, _, _, _, _, _, _, _, _, _, _, _, _, _, _, _, _, _, _, _, _, _, _, _, _, _, _, _, _, _, _, _, _, _, _, _, _, _, _, _, _, _, _, _, _, _, _, _, _, _, _, _, _, _, _, _, _, _, _, _, _, _, _, _, _, _, _, _, _, _, _, _, _, _, _, _, _, _, _, _, _, _, _, _, _, _, _, _, _, _, _, _, _, _, _, _, _, _, _, _, _, _, _, _, _, _, _, _, _, _, _, _, _, _, _, _, _, _, _, _, _, _, _, _, _, _, _, _, _, _, _, _, _, _, _, _, _, _, _, _, _, _, _, _, _, _, _, _, _, _, _, _, _, _, _, ⟨k + 1, by omega, by go_num, hide (ofSt_none (by rw [HF2.out, HO.out]; rfl) ?_ (Hbel.out.alloc Hbel.out.size _) (hB0.out.alloc _) (HB1.out.alloc _))⟩, rfl⟩, ?_⟩
  ·rw [HC.out, if_pos E1.out]
  simp [intOf]; omega
 | false =>
  have e1 := hide (show ¬ x.k = 1 by simpa using k1)
  cases k2 : (x.k == 2) with
  | false =>
   have HO := hide (show opens id x = false by simp only [opens, decide_eq_false_iff_not]; intro h; simp [h.1] at k2)
   go_wp2_with fail
   refine HN.out _ _ ⟨⟨_, _, _, _, _, _, _, _, _, _, _, _, _, _, _, _, _, _, _, _, _, _, _, _, _, _, _, _, _, _, _, _, _, _, _, _, _, _, _, _, _, _, _, _, _, _, _, _, _, _, _, _, _, _, _, _, _, _, _, _, _, _, _, _, _, _, _, _, _, _, _, _, _, _, _, _, _, _, _, _, _, _, _, _, _, _, _, _, _, _, _, _, _, _, _, _, _, _, _, _, _, _, _, _, _, _, _, _, _, _, _, _, _, _, _, _, _, _, _, _, _, _, _, _, _, _, _, _, _, _, _, _, _, _, _, _, _, _, _, _, _, _, _, _, _, _, _, _, _, _, _, _, _, _, _, _, _, _, _, ⟨k + 1, by omega, by go_num, hide (ofSt_none (by rw [HF2.out, HO.out]; rfl) ?_ (Hbel.out.alloc Hbel.out.size _) (hB0.out.alloc _) (HB1.out.alloc _))⟩, rfl⟩, ?_⟩
   ·rw [HC.out, if_neg e1.out]
   simp [intOf]; omega
  | true =>
   have e2 := hide (show x.k = 2 by simpa using k2)
   cases k3 : (x.id == id) with
   | false =>
    have HO := hide (show opens id x = false by simp only [opens, decide_eq_false_iff_not]; intro h; simp [h.2] at k3)
    go_wp2_with fail
    refine HN.out _ _ ⟨⟨_, _, _, _, _, _, _, _, _, _, _, _, _, _, _, _, _, _, _, _, _, _, _, _, _, _, _, _, _, _, _, _, _, _, _, _, _, _, _, _, _, _, _, _, _, _, _, _, _, _, _, _, _, _, _, _, _, _, _, _, _, _, _, _, _, _, _, _, _, _, _, _, _, _, _, _, _, _, _, _, _, _, _, _, _, _, _, _, _, _, _, _, _, _, _, _, _, _, _, _, _, _, _, _, _, _, _, _, _, _, _, _, _, _, _, _, _, _, _, _, _, _, _, _, _, _, _, _, _, _, _, _, _, _, _, _, _, _, _, _, _, _, _, _, _, _, _, _, _, _, _, _, _, _, _, _, _, _, _, ⟨k + 1, by omega, by go_num, hide (ofSt_none (by rw [HF2.out, HO.out]; rfl) ?_ (Hbel.out.alloc Hbel.out.size _) (hB0.out.alloc _) (HB1.out.alloc _))⟩, rfl⟩, ?_⟩
    ·rw [HC.out, if_neg e1.out]
    simp [intOf]; omega
   | true =>
    have HO := hide (show opens id x = true by simp only [opens, decide_eq_true_eq]; exact ⟨e2.out, by simpa using k3⟩)
    go_wp2_with fail
    have hb10 := below_put10 Hbel.out (show w.heap.size ≤ w.heap.size + 1 by omega) (.int .i64 id) (.int .i64 x.n) (.int .i64 (clockOf 0 (l.take k))) (.slice none 0 0) (.slice none 0 0) (.slice none 0 0) (.string ⟨#[]⟩) (.string ⟨#[]⟩) (.bool false) (.int .i64 0)
    refine HN.out _ _ ⟨⟨_, _, _, _, _, _, _, _, _, _, _, _, _, _, _, _, _, _, _, _, _, _, _, _, _, _, _, _, _, _, _, _, _, _, _, _, _, _, _, _, _, _, _, _, _, _, _, _, _, _, _, _, _, _, _, _, _, _, _, _, _, _, _, _, _, _, _, _, _, _, _, _, _, _, _, _, _, _, _, _, _, _, _, _, _, _, _, _, _, _, _, _, _, _, _, _, _, _, _, _, _, _, _, _, _, _, _, _, _, _, _, _, _, _, _, _, _, _, _, _, _, _, _, _, _, _, _, _, _, _, _, _, _, _, _, _, _, _, _, _, _, _, _, _, _, _, _, _, _, _, _, _, _, _, _, _, _, _, _, ⟨k + 1, by omega, by go_num, hide (ofSt_some (by rw [HF2.out, HO.out]; rfl) (hb10.alloc hb10.size _) ((hB0.out.far10 (by omega) _ _ _ _ _ _ _ _ _ _).alloc _) ((open_life HB1.out).only ((Only.refl NoBlk _).alloc _)) ⟨Nat.zero_le _, Nat.zero_le _, Nat.zero_le _, Nat.zero_le _⟩ _)⟩, rfl⟩, ?_⟩
    simp [intOf]; omega
end Go.Proofs.YtdmdohjdmnmabaaGreat
namespace Go.Proofs.YtdmdohjdmnmabaaGreat
open Go.RowKit
set_option linter.unusedVariables false

/-- what the page's Of returns; its rows are new ones -/
def RetNew31 (id : Int) (o : Option LifeM) (w : World) (e : Ending) (w' : World) : Prop :=
 Below w.heap.size w w' ∧ match o with
 | none => e = .returned (.tuple #[.agg zeroV, .bool false])
 | some f => ∃ A c B d C n c3, e = .returned (.tuple #[.agg (lifeV id f (.slice A f.ins.length c) (.slice C n c3) (.slice B f.steps.length d)), .bool true]) ∧
  Rd w' (· < w.heap.size) A (flat encInp f.ins) ∧ Rd w' (· < w.heap.size) B (flat encStp f.steps)
set_option maxRecDepth 100000 in
set_option maxHeartbeats 16000000 in
theorem refOfN_c (A : Option Addr) (c : Nat) (l : List Ev) (id : Int) (w : World) (hr : Rd w NoBlk A (flat encEv l)) (hn : l.length ≤ 10000) (hx : ∀ x ∈ l, x.s.size ≤ 100) :
 Calls Tryz.prog 45 #[.slice A l.length c, .int .i64 id] w (RetNew31 id (lifeGo id 0 l) w) := by
 have Hc := hide (fun k hk => ev_cells hr k hk)
 have HX := hide hx
 obtain ⟨n, hnl⟩ : ∃ n, n = l.length := ⟨_, rfl⟩
 rw [← hnl] at hn ⊢
 have Hn := hide hnl
 clear hr hnl hx
 obtain ⟨ii, hii, hiz0, hiz1, hiz2⟩ := info_parts Tryz.infoInp
 obtain ⟨io, hio, hoz0, hoz1, hoz2⟩ := info_parts Tryz.infoOut23
 obtain ⟨is, his, hsz0, hsz1, hsz2⟩ := info_parts Tryz.infoStp
 go_enter Tryz.func45, Tryz.ntmps45
 go_wp2_with fail
 go_loopw [7, 8, 9] (fun ok ck i wr => ∃ k : Nat, k ≤ n ∧ i = .int .i64 k ∧ Hid (OfSt w wr id l k ok ck)) (fun _ _ i _ => n - (intOf i).toNat)
 case atStart =>
  refine ⟨0, Nat.zero_le _, rfl, hide (ofSt_none rfl rfl ?_ ?_ ?_)⟩
  ·exact (below_alloc _ _).alloc (by simp) _
  ·exact (Blk.new w _ _).alloc _
  ·exact Blk.new' (by simp)
 case round =>
  obtain ⟨k, hk, rfl, hst⟩ := hrel
  by_cases hlt : k < n
  ·obtain ⟨b, o, rfl, _, hb, g0, g1, g2, g3, g4, g5, g6, g7, g8, g9, g10, g11⟩ := Hc.out k (by rw [← Hn.out]; exact hlt)
   have hbel := hst.out.1
   replace g0 := bkeepL hbel hb g0
   replace g1 := bkeepL hbel hb g1
   replace g2 := bkeepL hbel hb g2
   replace g3 := bkeepL hbel hb g3
   replace g4 := bkeepL hbel hb g4
   replace g5 := bkeepL hbel hb g5
   replace g6 := bkeepL hbel hb g6
   replace g7 := bkeepL hbel hb g7
   replace g8 := bkeepL hbel hb g8
   replace g9 := bkeepL hbel hb g9
   replace g10 := bkeepL hbel hb g10
   replace g11 := bkeepL hbel hb g11
   have HF := hide (lifeGo_succ id l k (by rw [← Hn.out]; exact hlt))
   have HC := hide (clock_succ 0 l k (by rw [← Hn.out]; exact hlt))
   have hxs := HX.out (evAt l k) (by
    have e : evAt l k = l[k]'(by rw [← Hn.out]; exact hlt) := by simp [evAt, List.getD, show k < l.length by rw [← Hn.out]; exact hlt]
    rw [e]; exact List.getElem_mem _)
   obtain ⟨x, hx⟩ : ∃ x, x = evAt l k := ⟨_, rfl⟩
   rw [← hx] at g0 g1 g2 g3 g4 g5 g6 g7 g8 g9 g10 g11 HF HC hxs
   clear hx
   have hB0 := hide hst.out.2.1
   have hst2 := hst.out.2.2
   have Hbel := hide hbel
   clear hst hbel
   cases ho : lifeGo id 0 (l.take k) with
   | none =>
    rw [ho] at hst2
    have HF2 : Hid (lifeGo id 0 (l.take (k + 1)) = if opens id x then some (life0 x.n (clockOf 0 (l.take k))) else none) := hide (by rw [HF.out, ho])
    clear HF ho
    obtain ⟨rfl, rfl, hB1⟩ := hst2
    exact refOf_z (R' := _) _ _ _ rfl b o c n k l id 0 w wr x hlt hn g0 g1 g2 g3 g4 g5 g6 g7 g8 g9 g10 g11 hxs hB0.out Hbel.out hB1 HF2 HC _ _ _ _ _ _ _ _ _ _ _ _ _ _ _ _ _ _ _ _ _ _ _ _ _ _ _ _ _ _ _ _ _ _ _ _ _ _ _ _ _ _ _ _ _ _ _ _ _ _ _ _ _ _ _ _ _ _ _ _ _ _ _ _ _ _ _ _ _ _ _ _ _ _ _ _ _ _ _ _ _ _ _ _ _ _ _ _ _ _ _ _ _ _ _ _ _ _ _ _ _ _ _ _ _ _ _ _ _ _ _ _ _ _ _ _ _ _ _ _ _ _ _ _ _ _ _ _ _ _ _ _ _ _ _ _ _ _ _ _ _ _ _ _ _ _ _ _ _ _ _ _ _ _ _ _ (fun _ _ h => h)
   | some f =>
    rw [ho] at hst2
    have HF2 : Hid (lifeGo id 0 (l.take (k + 1)) = some (addL id f x)) := hide (by rw [HF.out, ho])
    clear HF ho
    obtain ⟨rfl, hRL, hsm, ck, rfl⟩ := hst2
    by_cases h7 : x.k = 7
    ·by_cases hs : f.status = 0
     ·exact refOf_k7 (R' := _) _ _ _ rfl b o c n k l id ck w wr f x hlt hn g0 g1 g2 g3 g4 g5 g6 g7 g8 g9 g10 g11 hxs hB0.out Hbel.out hRL hsm HF2 ⟨h7, hs⟩ _ _ _ _ _ _ _ _ _ _ _ _ _ _ _ _ _ _ _ _ _ _ _ _ _ _ _ _ _ _ _ _ _ _ _ _ _ _ _ _ _ _ _ _ _ _ _ _ _ _ _ _ _ _ _ _ _ _ _ _ _ _ _ _ _ _ _ _ _ _ _ _ _ _ _ _ _ _ _ _ _ _ _ _ _ _ _ _ _ _ _ _ _ _ _ _ _ _ _ _ _ _ _ _ _ _ _ _ _ _ _ _ _ _ _ _ _ _ _ _ _ _ _ _ _ _ _ _ _ _ _ _ _ _ _ _ _ _ _ _ _ _ _ _ _ _ _ _ _ _ _ _ _ _ _ _ (fun _ _ h => h)
     ·exact refOf_n7 (R' := _) _ _ _ rfl b o c n k l id ck w wr f x hlt hn g0 g1 g2 g3 g4 g5 g6 g7 g8 g9 g10 g11 hxs hB0.out Hbel.out hRL hsm HF2 h7 hs _ _ _ _ _ _ _ _ _ _ _ _ _ _ _ _ _ _ _ _ _ _ _ _ _ _ _ _ _ _ _ _ _ _ _ _ _ _ _ _ _ _ _ _ _ _ _ _ _ _ _ _ _ _ _ _ _ _ _ _ _ _ _ _ _ _ _ _ _ _ _ _ _ _ _ _ _ _ _ _ _ _ _ _ _ _ _ _ _ _ _ _ _ _ _ _ _ _ _ _ _ _ _ _ _ _ _ _ _ _ _ _ _ _ _ _ _ _ _ _ _ _ _ _ _ _ _ _ _ _ _ _ _ _ _ _ _ _ _ _ _ _ _ _ _ _ _ _ _ _ _ _ _ _ _ _ (fun _ _ h => h)
    ·by_cases hi : x.id = id
     ·by_cases h4 : x.k = 4
      ·exact refOf_k4 (R' := _) _ _ _ rfl b o c n k l id ck w wr f x hlt hn g0 g1 g2 g3 g4 g5 g6 g7 g8 g9 g10 g11 hxs hB0.out Hbel.out hRL hsm HF2 h4 hi _ _ _ _ _ _ _ _ _ _ _ _ _ _ _ _ _ _ _ _ _ _ _ _ _ _ _ _ _ _ _ _ _ _ _ _ _ _ _ _ _ _ _ _ _ _ _ _ _ _ _ _ _ _ _ _ _ _ _ _ _ _ _ _ _ _ _ _ _ _ _ _ _ _ _ _ _ _ _ _ _ _ _ _ _ _ _ _ _ _ _ _ _ _ _ _ _ _ _ _ _ _ _ _ _ _ _ _ _ _ _ _ _ _ _ _ _ _ _ _ _ _ _ _ _ _ _ _ _ _ _ _ _ _ _ _ _ _ _ _ _ _ _ _ _ _ _ _ _ _ _ _ _ _ _ _ (fun _ _ h => h)
      ·by_cases h5 : x.k = 5
       ·exact refOf_k5 (R' := _) _ _ _ rfl b o c n k l id ck w wr f x hlt hn g0 g1 g2 g3 g4 g5 g6 g7 g8 g9 g10 g11 hxs hB0.out Hbel.out hRL hsm HF2 h5 hi _ _ _ _ _ _ _ _ _ _ _ _ _ _ _ _ _ _ _ _ _ _ _ _ _ _ _ _ _ _ _ _ _ _ _ _ _ _ _ _ _ _ _ _ _ _ _ _ _ _ _ _ _ _ _ _ _ _ _ _ _ _ _ _ _ _ _ _ _ _ _ _ _ _ _ _ _ _ _ _ _ _ _ _ _ _ _ _ _ _ _ _ _ _ _ _ _ _ _ _ _ _ _ _ _ _ _ _ _ _ _ _ _ _ _ _ _ _ _ _ _ _ _ _ _ _ _ _ _ _ _ _ _ _ _ _ _ _ _ _ _ _ _ _ _ _ _ _ _ _ _ _ _ _ _ _ (fun _ _ h => h)
       ·by_cases h6 : x.k = 6
        ·exact refOf_k6 (R' := _) _ _ _ rfl b o c n k l id ck w wr f x hlt hn g0 g1 g2 g3 g4 g5 g6 g7 g8 g9 g10 g11 hxs hB0.out Hbel.out hRL hsm HF2 h6 hi _ _ _ _ _ _ _ _ _ _ _ _ _ _ _ _ _ _ _ _ _ _ _ _ _ _ _ _ _ _ _ _ _ _ _ _ _ _ _ _ _ _ _ _ _ _ _ _ _ _ _ _ _ _ _ _ _ _ _ _ _ _ _ _ _ _ _ _ _ _ _ _ _ _ _ _ _ _ _ _ _ _ _ _ _ _ _ _ _ _ _ _ _ _ _ _ _ _ _ _ _ _ _ _ _ _ _ _ _ _ _ _ _ _ _ _ _ _ _ _ _ _ _ _ _ _ _ _ _ _ _ _ _ _ _ _ _ _ _ _ _ _ _ _ _ _ _ _ _ _ _ _ _ _ _ _ (fun _ _ h => h)
        ·by_cases h8 : x.k = 8
         ·exact refOf_k8 (R' := _) _ _ _ rfl b o c n k l id ck w wr f x hlt hn g0 g1 g2 g3 g4 g5 g6 g7 g8 g9 g10 g11 hxs hB0.out Hbel.out hRL hsm HF2 h8 hi _ _ _ _ _ _ _ _ _ _ _ _ _ _ _ _ _ _ _ _ _ _ _ _ _ _ _ _ _ _ _ _ _ _ _ _ _ _ _ _ _ _ _ _ _ _ _ _ _ _ _ _ _ _ _ _ _ _ _ _ _ _ _ _ _ _ _ _ _ _ _ _ _ _ _ _ _ _ _ _ _ _ _ _ _ _ _ _ _ _ _ _ _ _ _ _ _ _ _ _ _ _ _ _ _ _ _ _ _ _ _ _ _ _ _ _ _ _ _ _ _ _ _ _ _ _ _ _ _ _ _ _ _ _ _ _ _ _ _ _ _ _ _ _ _ _ _ _ _ _ _ _ _ _ _ _ (fun _ _ h => h)
         ·exact refOf_nn (R' := _) _ _ _ rfl b o c n k l id ck w wr f x hlt hn g0 g1 g2 g3 g4 g5 g6 g7 g8 g9 g10 g11 hxs hB0.out Hbel.out hRL hsm HF2 h7 hi h4 h5 h6 h8 _ _ _ _ _ _ _ _ _ _ _ _ _ _ _ _ _ _ _ _ _ _ _ _ _ _ _ _ _ _ _ _ _ _ _ _ _ _ _ _ _ _ _ _ _ _ _ _ _ _ _ _ _ _ _ _ _ _ _ _ _ _ _ _ _ _ _ _ _ _ _ _ _ _ _ _ _ _ _ _ _ _ _ _ _ _ _ _ _ _ _ _ _ _ _ _ _ _ _ _ _ _ _ _ _ _ _ _ _ _ _ _ _ _ _ _ _ _ _ _ _ _ _ _ _ _ _ _ _ _ _ _ _ _ _ _ _ _ _ _ _ _ _ _ _ _ _ _ _ _ _ _ _ _ _ _ (fun _ _ h => h)
     ·exact refOf_ni (R' := _) _ _ _ rfl b o c n k l id ck w wr f x hlt hn g0 g1 g2 g3 g4 g5 g6 g7 g8 g9 g10 g11 hxs hB0.out Hbel.out hRL hsm HF2 h7 hi _ _ _ _ _ _ _ _ _ _ _ _ _ _ _ _ _ _ _ _ _ _ _ _ _ _ _ _ _ _ _ _ _ _ _ _ _ _ _ _ _ _ _ _ _ _ _ _ _ _ _ _ _ _ _ _ _ _ _ _ _ _ _ _ _ _ _ _ _ _ _ _ _ _ _ _ _ _ _ _ _ _ _ _ _ _ _ _ _ _ _ _ _ _ _ _ _ _ _ _ _ _ _ _ _ _ _ _ _ _ _ _ _ _ _ _ _ _ _ _ _ _ _ _ _ _ _ _ _ _ _ _ _ _ _ _ _ _ _ _ _ _ _ _ _ _ _ _ _ _ _ _ _ _ _ _ (fun _ _ h => h)
  ·have hke : k = n := by omega
   subst hke
   have hd : decide ((k : Int) < k) = false := by simp
   have hd2 : decide (k < k) = false := by simp
   have ht : l.take k = l := List.take_of_length_le (by rw [← Hn.out]; omega)
   have hst' := hst.out
   have Hbel := hide hst'.1
   have hB0 := hide hst'.2.1
   have hst2 := hst'.2.2
   rw [ht] at hst2
   clear hst hst' hlt
   cases ho : lifeGo id 0 l with
   | none =>
    rw [ho] at hst2
    obtain ⟨rfl, rfl, hB1⟩ := hst2
    obtain ⟨⟨z0, z1, z2, z3, z4, z5, z6, z7, z8, z9⟩, -⟩ := hB1.ten
    obtain ⟨⟨y0, y1, y2, y3, y4, y5, y6, y7, y8, y9⟩, h0, h1, h2, h3, h4, h5, h6, h7, h8, h9⟩ := hB0.out.ten
    have hne : ¬ w.heap.size = w.heap.size + 1 := by omega
    have hne2 : ¬ w.heap.size + 1 = w.heap.size := by omega
    have HO := hide ho
    clear ho hB1 ht
    go_wp2_with fail
    obtain ⟨wz, hz⟩ : ∃ wz, wz = ((((((((((wr.setCell ⟨w.heap.size, 0, none⟩ (.int .i64 0)).setCell ⟨w.heap.size, 1, none⟩ (.int .i64 0)).setCell ⟨w.heap.size, 2, none⟩ (.int .i64 0)).setCell ⟨w.heap.size, 3, none⟩ (.slice none 0 0)).setCell ⟨w.heap.size, 4, none⟩ (.slice none 0 0)).setCell ⟨w.heap.size, 5, none⟩ (.slice none 0 0)).setCell ⟨w.heap.size, 6, none⟩ (.string ⟨#[]⟩)).setCell ⟨w.heap.size, 7, none⟩ (.string ⟨#[]⟩)).setCell ⟨w.heap.size, 8, none⟩ (.bool false)).setCell ⟨w.heap.size, 9, none⟩ (.int .i64 0)) := ⟨_, rfl⟩
    have tB : Blk wz w.heap.size 92 #[.int .i64 0, .int .i64 0, .int .i64 0, .slice none 0 0, .slice none 0 0, .slice none 0 0, .string ⟨#[]⟩, .string ⟨#[]⟩, .bool false, .int .i64 0] := by rw [hz]; exact hB0.out.put10 (.int .i64 0) (.int .i64 0) (.int .i64 0) (.slice none 0 0) (.slice none 0 0) (.slice none 0 0) (.string ⟨#[]⟩) (.string ⟨#[]⟩) (.bool false) (.int .i64 0)
    have lB := hide (show Below w.heap.size w wz from by rw [hz]; exact below_put10 Hbel.out (Nat.le_refl _) (.int .i64 0) (.int .i64 0) (.int .i64 0) (.slice none 0 0) (.slice none 0 0) (.slice none 0 0) (.string ⟨#[]⟩) (.string ⟨#[]⟩) (.bool false) (.int .i64 0))
    rw [← hz]
    clear hz z0 z1 z2 z3 z4 z5 z6 z7 z8 z9 y0 y1 y2 y3 y4 y5 y6 y7 y8 y9 h0 h1 h2 h3 h4 h5 h6 h7 h8 h9
    obtain ⟨⟨z0, z1, z2, z3, z4, z5, z6, z7, z8, z9⟩, -⟩ := tB.ten
    clear tB
    refine bodyPost_ret (v := .tuple #[.agg #[.int .i64 0, .int .i64 0, .int .i64 0, .slice none 0 0, .slice none 0 0, .slice none 0 0, .string ⟨#[]⟩, .string ⟨#[]⟩, .bool false, .int .i64 0], .bool false]) (by simp [results, Tryz.results45, go_sem, z0, z1, z2, z3, z4, z5, z6, z7, z8, z9]) rfl ?_
    refine ⟨lB.out, ?_⟩
    rw [HO.out]
   | some f =>
    rw [ho] at hst2
    obtain ⟨rfl, hRL, hsm, ck, rfl⟩ := hst2
    obtain ⟨vi, vw, vs, xw, hm⟩ := hRL.ex
    obtain ⟨A1, c1, rfl, hc1⟩ := own_cap hm.oi
    obtain ⟨A2, c2, rfl, hc2⟩ := own_cap hm.ow
    obtain ⟨A3, c3, rfl, hc3⟩ := own_cap hm.os
    have hB1 := hm.blk
    have rI := hide (Rd.of_own (M := fun k => k ≤ w.heap.size) hm.oi (fun k hk => by omega))
    have rS := hide (Rd.of_own (M := fun k => k ≤ w.heap.size) hm.os (fun k hk => by omega))
    clear hm hRL hsm
    obtain ⟨⟨z0, z1, z2, z3, z4, z5, z6, z7, z8, z9⟩, -⟩ := hB1.ten
    obtain ⟨⟨y0, y1, y2, y3, y4, y5, y6, y7, y8, y9⟩, h0, h1, h2, h3, h4, h5, h6, h7, h8, h9⟩ := hB0.out.ten
    have hne : ¬ w.heap.size = w.heap.size + 1 := by omega
    have hne2 : ¬ w.heap.size + 1 = w.heap.size := by omega
    have HO := hide ho
    clear ho hB1 ht
    go_wp2_with fail
    obtain ⟨wz, hz⟩ : ∃ wz, wz = ((((((((((wr.setCell ⟨w.heap.size, 0, none⟩ (.int .i64 id)).setCell ⟨w.heap.size, 1, none⟩ (.int .i64 f.script)).setCell ⟨w.heap.size, 2, none⟩ (.int .i64 f.start)).setCell ⟨w.heap.size, 3, none⟩ (.slice A1 f.ins.length c1)).setCell ⟨w.heap.size, 4, none⟩ (.slice A2 f.ins.length c2)).setCell ⟨w.heap.size, 5, none⟩ (.slice A3 f.steps.length c3)).setCell ⟨w.heap.size, 6, none⟩ (.string f.read)).setCell ⟨w.heap.size, 7, none⟩ (.string f.taken)).setCell ⟨w.heap.size, 8, none⟩ (.bool f.eof)).setCell ⟨w.heap.size, 9, none⟩ (.int .i64 f.status)) := ⟨_, rfl⟩
    have tB : Blk wz w.heap.size 92 #[.int .i64 id, .int .i64 f.script, .int .i64 f.start, .slice A1 f.ins.length c1, .slice A2 f.ins.length c2, .slice A3 f.steps.length c3, .string f.read, .string f.taken, .bool f.eof, .int .i64 f.status] := by rw [hz]; exact hB0.out.put10 (.int .i64 id) (.int .i64 f.script) (.int .i64 f.start) (.slice A1 f.ins.length c1) (.slice A2 f.ins.length c2) (.slice A3 f.steps.length c3) (.string f.read) (.string f.taken) (.bool f.eof) (.int .i64 f.status)
    have lB := hide (show Below w.heap.size w wz from by rw [hz]; exact below_put10 Hbel.out (Nat.le_refl _) (.int .i64 id) (.int .i64 f.script) (.int .i64 f.start) (.slice A1 f.ins.length c1) (.slice A2 f.ins.length c2) (.slice A3 f.steps.length c3) (.string f.read) (.string f.taken) (.bool f.eof) (.int .i64 f.status))
    have qI := hide (show Rd wz (· < w.heap.size) A1 (flat encInp f.ins) from by rw [hz]; exact (rI.out.put10 (g := w.heap.size) (Nat.le_refl _) (.int .i64 id) (.int .i64 f.script) (.int .i64 f.start) (.slice A1 f.ins.length c1) (.slice A2 f.ins.length c2) (.slice A3 f.steps.length c3) (.string f.read) (.string f.taken) (.bool f.eof) (.int .i64 f.status)).mono (fun _ h => Nat.le_of_lt h))
    have qS := hide (show Rd wz (· < w.heap.size) A3 (flat encStp f.steps) from by rw [hz]; exact (rS.out.put10 (g := w.heap.size) (Nat.le_refl _) (.int .i64 id) (.int .i64 f.script) (.int .i64 f.start) (.slice A1 f.ins.length c1) (.slice A2 f.ins.length c2) (.slice A3 f.steps.length c3) (.string f.read) (.string f.taken) (.bool f.eof) (.int .i64 f.status)).mono (fun _ h => Nat.le_of_lt h))
    rw [← hz]
    clear hz z0 z1 z2 z3 z4 z5 z6 z7 z8 z9 y0 y1 y2 y3 y4 y5 y6 y7 y8 y9 h0 h1 h2 h3 h4 h5 h6 h7 h8 h9
    obtain ⟨⟨z0, z1, z2, z3, z4, z5, z6, z7, z8, z9⟩, -⟩ := tB.ten
    clear tB
    refine bodyPost_ret (v := .tuple #[.agg #[.int .i64 id, .int .i64 f.script, .int .i64 f.start, .slice A1 f.ins.length c1, .slice A2 f.ins.length c2, .slice A3 f.steps.length c3, .string f.read, .string f.taken, .bool f.eof, .int .i64 f.status], .bool true]) (by simp [results, Tryz.results45, go_sem, z0, z1, z2, z3, z4, z5, z6, z7, z8, z9]) rfl ?_
    refine ⟨lB.out, ?_⟩
    rw [HO.out]
    exact ⟨A1, c1, A3, c3, A2, _, c2, rfl, qI.out, qS.out⟩
theorem refOf_c (A : Option Addr) (c : Nat) (l : List Ev) (id : Int) (w : World) (hr : Rd w NoBlk A (flat encEv l)) (hn : l.length ≤ 10000) (hx : ∀ x ∈ l, x.s.size ≤ 100) :
 Calls Tryz.prog 45 #[.slice A l.length c, .int .i64 id] w (RetLife31 id (lifeGo id 0 l) w) := by
 refine (refOfN_c A c l id w hr hn hx).mono ?_
 rintro e w' ⟨h1, h2⟩
 refine ⟨h1, ?_⟩
 revert h2
 cases lifeGo id 0 l with
 | none => exact fun h => h
 | some f =>
  rintro ⟨A, c, B, d, C, n, c3, he, q1, q2⟩
  exact ⟨A, c, B, d, C, n, c3, he, q1.mono (fun _ h => h.elim), q2.mono (fun _ h => h.elim)⟩
end Go.Proofs.YtdmdohjdmnmabaaGreat
