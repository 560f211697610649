/- A line of which nothing is wrong, taken in by the document. Conditions: those of each theorem. -/
import Derived.Test.YtaioaojfdngfdaaGreatDoorPb07
import Derived.Test.YtaioaojfdngfdaaGreatDoorPb34
import Derived.BigRegion
namespace Go.Proofs.YtaioaojfdngfdaaGreatDoor
open Go.RowKit
set_option linter.unusedVariables false
set_option linter.unusedSimpArgs false
set_option maxRecDepth 100000
theorem Tryz.infoDUse : (Tryz.prog.info? 88).map (fun i => (i.zero, i.size, i.bytes)) = some (some (.agg #[.string ⟨#[]⟩, .int .i64 0, .int .i64 0, .int .i64 0, .int .i64 0]), 5, 48) := by kernel_rfl
theorem Tryz.infoDLb : (Tryz.prog.info? 146).map (fun i => (i.zero, i.size, i.bytes)) = some (some (.agg #[.string ⟨#[]⟩, .int .i64 0]), 2, 24) := by kernel_rfl
theorem OnB.own {B : Nat} {w w' : World} {base size n : Nat} {e : TypeId} {v : Value} {xs : List Value} (h : OnB B w w') (ho : w.ownsRow base e size v n xs) (hm : MutT e = false) : w'.ownsRow base e size v n xs := by
 obtain ⟨h1, h2⟩ := ho
 refine ⟨h1, ?_⟩
 rcases h2 with h2 | ⟨g, cap, cur, hv, hg, hb, r⟩
 ·exact Or.inl h2
 ·exact Or.inr ⟨g, cap, cur, hv, hg, h.keep g e cur hb hm, r⟩
/-- a row grown: the world behind -/
structure Grew (w w' : World) (B : Nat) (T : TypeId) (v v' : Value) : Prop where
 by_ : w.grownBy w' v.ownBlock
theorem app_run {w : World} {base size bytes n : Nat} {e t : TypeId} {i : TypeInfo} {z : Value} {A0 : Option Addr} {c0 : Nat} {xs news : List Value} {b : Nat} (hown : w.ownsRow base e size (.slice A0 n c0) n xs) (ht : Tryz.prog.underlying t = some (.slice e)) (hi : Tryz.prog.info? e = some i) (hz : i.zero = some z)
 (hsize : i.size = size) (hby : i.bytes = bytes) (hzs : z.cells.size = size) (hsz : 0 < size) (hb : Blk w b e news.toArray) (hl : news.length = 1 * size) (h1 : ∀ u ∈ news, u.oneCell' = true) (h63 : n + 1 ≤ maxLen) (hbytes : (n + 1) * bytes ≤ 140737488355328) (hbase : base ≤ w.heap.size) :
 ∃ g c' w', (Builtin.append_ #[t, t] t #[.slice A0 n c0, .slice (some ⟨b, 0, none⟩) 1 1]).run Tryz.prog w = .ok (.slice (some ⟨g, 0, none⟩) (n + 1) c') w' ∧ w'.ownsRow base e size (.slice (some ⟨g, 0, none⟩) (n + 1) c') (n + 1) (xs ++ news) ∧ w.grownBy w' (blkA A0) ∧ (blkA (some ⟨g, 0, none⟩) = blkA A0 ∨ blkA (some ⟨g, 0, none⟩) = some w.heap.size) := by
 obtain ⟨v', w', hrun, h2, h3, h4⟩ := run_append_rd (P := Tryz.prog) w base t t e i z size bytes ht hi hz hsize hby hzs hsz (.slice A0 n c0) n xs hown NoBlk (some ⟨b, 0, none⟩) 1 1 news (rd_blkN hb (fun h => h)) hl h1 h63 hbytes hbase
 obtain ⟨A', c', rfl, _⟩ := own_cap h2
 obtain ⟨g, rfl, _, _⟩ := own_slice_at h2
 rw [blkA_own, blkA_own] at h4
 rw [blkA_own] at h3
 exact ⟨g, c', w', hrun, h2, h3, h4⟩
set_option maxHeartbeats 12800000 in
theorem refTake_label (B a : Nat) (d : Dp) (x0 x1 : WordM) (A : Option Addr) (c : Nat) (line : Int) (bw : Nat) (w : World) (h : DAt w B a d) (ho : w.ownsRow bw 141 3 (.slice A 2 c) 2 (flat encW [x0, x1])) (ht : x0.text = kLabel) (hx : ∀ x ∈ [x0, x1], x.text.length ≤ 1000000000 ∧ x.at_ ≤ 1000000000)
 (hL : d.L.length ≤ 1000000) (hU : d.uses.length ≤ 1000000) (hB : d.labels.length ≤ 1000000) (ha : ∀ v ∈ d.L, v.o.arms.length ≤ 1000000) : Calls Tryz.prog 78 #[.pointer (some ⟨a, 0, none⟩), .slice A 2 c, .int .i64 line] w fun e w' => e = .returned (.tuple #[]) ∧ DidD w w' B a (takeD d.pl [x0, x1] line) := by
 have hBa := h.base
 have H := hide h
 obtain ⟨gw, rfl, hbw, hgw⟩ := own_at ho (by omega)
 have HWo := hide ho
 have hx0 := hx x0 (by simp)
 have hx1 := hx x1 (by simp)
 obtain ⟨s, hs⟩ : ∃ s, s = bs x0.text := ⟨_, rfl⟩
 have Hs := hide hs
 have hsl : s.toList = x0.text := by rw [hs, ByteArray.toList_eq]
 have HKd := hide (fun (X : World) => refKind_c x0.text X)
 rw [ht, ← ht, ← hs] at HKd
 rw [show kindD x0.text = 0 by rw [ht]; rfl] at HKd
 have q0 : (s.toList == [115, 99, 114, 105, 112, 116]) = false := by rw [hsl, ht]; rfl
 have q1 : (s.toList == [108, 97, 98, 101, 108]) = true := by rw [hsl, ht]; rfl
 have HE := hide (show takeD d.pl [x0, x1] line = ({ d with opn := false, labels := d.labels ++ [(x1.text, ((d.L.length : Nat) : Int))] } : Dp).pl by
  have e : takeD d.pl [x0, x1] line = { d.pl with opn := false, labels := d.pl.labels ++ [(x1.text, ((d.pl.ops.length : Nat) : Int))] } := by
   have ht' : (wsAt [x0, x1] 0).text = kLabel := ht
   unfold takeD dOp dRest
   rw [ht']
   rfl
  rw [e, show d.pl.ops.length = d.L.length from List.length_map _]
  rfl)
 have k0 : w.cell? ⟨gw, 0, none⟩ = some (.string (bs x0.text)) := HWo.out.cellAt 0 (by omega)
 have k1 : w.cell? ⟨gw, 1, none⟩ = some (.bool x0.quoted) := HWo.out.cellAt 1 (by omega)
 have k2 : w.cell? ⟨gw, 2, none⟩ = some (.int .i64 x0.at_) := HWo.out.cellAt 2 (by omega)
 rw [← Hs.out] at k0
 clear hsl ht hs h ho hx
 go_enter Tryz.func78, Tryz.ntmps78
 go_wp2_with fail
 refine (HKd.out w).mono ?_
 rintro e wz ⟨rfl, hbz⟩
 have oz : OnB B w wz := OnB.none (Only.of_below hbz _)
 have HDz := hide (H.out.same (Only.of_below hbz NoBlk))
 have HOz := hide oz
 have HWz := hide (oz.own HWo.out rfl)
 clear k0 k1 k2 hbz oz
 have w1 : IntKind.i64.wrap ((d.L.length : Int) - 1) = (d.L.length : Int) - 1 := IntWalk.i64_in _ (by omega)
 have w2 : IntKind.i64.wrap ((d.L.length : Int) - 1 + 1) = (d.L.length : Int) := by rw [Int.sub_add_cancel]; exact IntWalk.i64_in _ (by omega)
 have w3 : IntKind.i64.wrap (d.L.length : Int) = (d.L.length : Int) := IntWalk.i64_in _ (by omega)
 have m0 : wz.cell? ⟨gw, 3, none⟩ = some (.string (bs x1.text)) := HWz.out.cellAt 3 (by omega)
 have m1 : wz.cell? ⟨gw, 4, none⟩ = some (.bool x1.quoted) := HWz.out.cellAt 4 (by omega)
 have m2 : wz.cell? ⟨gw, 5, none⟩ = some (.int .i64 x1.at_) := HWz.out.cellAt 5 (by omega)
 have d3 := HDz.out.cells.2.2.2.1
 have HGw := hide (show gw < wz.heap.size by have := HOz.out.on.size; omega)
 go_upto_region 14 with fail
 generalize hX : World.alloc wz _ = X
 have HLx := hide (show Blk X wz.heap.size 141 #[.string (bs x1.text), .bool x1.quoted, .int .i64 x1.at_] by rw [← hX]; exact Blk.new _ _ _)
 have HDx := hide (show DAt X B a d by rw [← hX]; exact HDz.out.alloc _)
 have HOx := hide (show OnB B w X by rw [← hX]; exact HOz.out.alloc _)
 have HWx := hide ((show OnB B wz X by rw [← hX]; exact (OnB.refl _ _).alloc _).own HWz.out rfl)
 obtain ⟨g9, hg9⟩ : ∃ g9, g9 = wz.heap.size := ⟨_, rfl⟩
 have HN9 := hide (show ¬ a = g9 by have := HDz.out.lt; omega)
 rw [← hg9] at HLx ⊢
 clear hX hg9 d3 m0 m1 m2 HGw
 have k0 : X.cell? ⟨gw, 0, none⟩ = some (.string (bs x0.text)) := HWx.out.cellAt 0 (by omega)
 have k1 : X.cell? ⟨gw, 1, none⟩ = some (.bool x0.quoted) := HWx.out.cellAt 1 (by omega)
 have k2 : X.cell? ⟨gw, 2, none⟩ = some (.int .i64 x0.at_) := HWx.out.cellAt 2 (by omega)
 rw [← Hs.out] at k0
 go_upto_region 21 with fail
 clear k0 k1 k2
 have m0 : X.cell? ⟨gw, 3, none⟩ = some (.string (bs x1.text)) := HWx.out.cellAt 3 (by omega)
 have m1 : X.cell? ⟨gw, 4, none⟩ = some (.bool x1.quoted) := HWx.out.cellAt 4 (by omega)
 have m2 : X.cell? ⟨gw, 5, none⟩ = some (.int .i64 x1.at_) := HWx.out.cellAt 5 (by omega)
 obtain ⟨ia, hia, hz0, hz1, hz2⟩ := info_parts Tryz.infoDLb
 have hax := HDx.out.lt
 have hgx : gw < X.heap.size := by have := HOx.out.on.size; omega
 obtain ⟨V0, hV0⟩ : ∃ V9, V9 = X.drew := ⟨_, rfl⟩
 have HD0 := hide (HDx.out.drew)
 have HO0 := hide (HOx.out.drew)
 have M0 : V0.cell? ⟨gw, 3, none⟩ = some (.string (bs x1.text)) := by rw [hV0]; exact m0
 have HX0 := hide (show OnB B X V0 by rw [hV0]; exact (OnB.refl _ _).drew)
 rw [← hV0] at HD0 HO0
 have hgV : gw < V0.heap.size := by rw [hV0]; exact hgx
 have haV : a < V0.heap.size := HD0.out.lt
 refine wp_region_held (S := fun w' => w'.cell? ⟨gw, 3, none⟩ = some (.string (bs x1.text))) (by kernel_rfl) ?_
 change wpAnyH _ _ _ _ _ _ _ _ X.drew
 have hHeld : (fun w' => w'.cell? ⟨gw, 3, none⟩ = some (.string (bs x1.text))) X.drew := (by rw [← hV0]; exact M0)
 rw [← hV0] at hHeld ⊢
 simp only [List.size_toArray, List.length_cons, List.length_nil, Nat.zero_add, Nat.reduceAdd]
 clear hV0
 refine tk 0 ?_ rfl ?_ ?_
 rotate_left
 ·(intro w9 hS9; (try simp only [ga]); go_simp <;> rfl)
 refine tk 1 ?_ rfl ?_ ?_
 rotate_left
 ·(intro w9 hS9; (try simp only [ga]); go_simp <;> rfl)
 refine tk 2 ?_ rfl ?_ ?_
 rotate_left
 ·(intro w9 hS9; (try simp only [ga]); go_simp <;> rfl)
 refine tk 3 ?_ rfl ?_ ?_
 rotate_left
 ·(intro w9 hS9; (try simp only [ga]); go_simp <;> rfl)
 refine tk 4 ?_ rfl ?_ ?_
 rotate_left
 ·(intro w9 hS9; (try simp only [ga]); go_simp <;> rfl)
 refine tk 6 ?_ rfl ?_ ?_
 rotate_left
 ·(intro w9 hS9; (try simp only [ga]); go_simp <;> rfl)
 refine tk 7 ?_ rfl ?_ ?_
 rotate_left
 ·(intro w9 hS9; (try simp only [ga]); go_simp <;> rfl)
 refine tk 8 ?_ rfl ?_ ?_
 rotate_left
 ·(intro w9 hS9; (try simp only [ga]); go_simp <;> rfl)
 refine tk 9 ?_ rfl ?_ ?_
 rotate_left
 ·(intro w9 hS9; (try simp only [ga]); go_simp <;> rfl)
 refine tk 10 ?_ rfl ?_ ?_
 rotate_left
 ·(intro w9 hS9; (try simp only [ga]); go_simp <;> rfl)
 refine tk 11 ?_ rfl ?_ ?_
 rotate_left
 ·(intro w9 hS9; (try simp only [ga]); go_simp <;> rfl)
 refine tk 12 ?_ rfl ?_ ?_
 rotate_left
 ·(intro w9 hS9; (try simp only [ga]); go_simp <;> rfl)
 try simp only [Act.put, gp]
 refine wpAnyH_ready (rs := [5, 13]) (by kernel_rfl) (by simp) ?_
 refine AllReadyH.cons rfl (fun K hK => ?_) (AllReadyH.cons rfl (fun K hK => ?_) AllReadyH.nil)
 ·
   have c4 := HD0.out.cells.2.2.2.2.1
   try simp only [ga]
   try go_simp
   refine hK.out _ _ M0 (fun hHeld => ?_)
   clear hK K
   try simp only [Act.put, gp]
   refine wpAnyH_ready (rs := [13]) (by kernel_rfl) (by simp) ?_
   refine AllReadyH.cons rfl (fun K hK => ?_) AllReadyH.nil
   obtain ⟨V1, hV1⟩ : ∃ V9, V9 = V0.alloc (.cells (encLb (x1.text, ((d.L.length : Nat) : Int))).toArray 146) := ⟨_, rfl⟩
   have HD1 := hide (HD0.out.alloc (.cells (encLb (x1.text, ((d.L.length : Nat) : Int))).toArray 146))
   have HO1 := hide (HO0.out.alloc (.cells (encLb (x1.text, ((d.L.length : Nat) : Int))).toArray 146))
   have HI1 := hide (Blk.new V0 146 (encLb (x1.text, ((d.L.length : Nat) : Int))).toArray)
   have HX1 := hide (show OnB B X V1 by rw [hV1]; exact HX0.out.alloc _)
   have M1 : V1.cell? ⟨gw, 3, none⟩ = some (.string (bs x1.text)) := by rw [hV1]; exact bkeep ((Below.refl _ V0).alloc (Nat.le_refl _) _) M0
   try simp only [ga]
   try go_simp
   rw [← hV1] at HD1 HO1 HI1
   simp only [encLb] at hV1
   rw [← hV1]
   clear hV1
   refine hK.out _ _ M1 (fun hHeld => ?_)
   clear hK K
   try simp only [Act.put, gp]
   refine wpAnyH_ready (rs := [14]) (by kernel_rfl) (by simp) ?_
   refine AllReadyH.cons rfl (fun K hK => ?_) AllReadyH.nil
   have hbs : B ≤ V1.heap.size := by have := HD1.out.lt; omega
   refine step_append_rd V1 (by rfl) (.tmp 138) (.tmp 146) _ (by rfl) B 146 ia _ 2 24 Tryz.underlying81 hia hz0 hz1 hz2 rfl (by omega) (.slice d.lA d.labels.length d.lc) d.labels.length (flat encLb d.labels) (by rfl) HD1.out.labels NoBlk (some ⟨V0.heap.size, 0, none⟩) 1 1 (encLb (x1.text, ((d.L.length : Nat) : Int))) (by rfl) (rd_blkN HI1.out (fun h => h)) rfl (encLb_one _) (by simp only [maxLen]; omega) (by omega) hbs ?_
   intro v3 V3 hown2 hgr how2
   obtain ⟨A4, c4, rfl, hc4⟩ := own_cap hown2
   rw [blkA_own] at hgr
   have HG3 := hide hgr
   have HOw3 := hide hown2
   have HBk3 := hide (grownBlk (v := .slice d.lA d.labels.length d.lc) HD1.out.blk (by rw [blkA_own]; exact hgr) HD1.out.labels (by decide))
   have hM3 : V3.cell? ⟨gw, 3, none⟩ = some (.string (bs x1.text)) := by
    have q := (OnB.of (B := B) (only_grow hgr) (fun g hg => own_ge HD1.out.labels g (by rw [blkA_own]; exact hg)) (fun g hg => own_blk HD1.out.labels (by rw [blkA_own]; exact hg)) (T := 146) rfl).own ((show OnB B X V1 by exact HX1.out).own HWx.out rfl) rfl
    exact q.cellAt 3 (by omega)
   clear hgr hown2 how2
   refine hK.out _ _ hM3 (fun hHeld => ?_)
   clear hK K
   refine tk 15 ?_ rfl ?_ ?_
   rotate_left
   ·(intro w9 hS9; (try simp only [ga]); go_simp <;> rfl)
   refine tk 16 ?_ rfl ?_ ?_
   rotate_left
   ·(intro w9 hS9; (try simp only [ga]); go_simp <;> rfl)
   try simp only [Act.put, gp]
   refine wpAnyH_ready (rs := [17]) (by kernel_rfl) (by simp) ?_
   refine AllReadyH.cons rfl (fun K hK => ?_) AllReadyH.nil
   have z4 : V3.cell? ⟨a, 4, none⟩ = some (.slice d.lA d.labels.length d.lc) := by rw [HBk3.out.cell]; rfl
   have y4 := HBk3.out.frozen 4
   try simp only [ga]
   try go_simp
   have HL := hide (HD1.out.label (d' := { d with labels := d.labels ++ [(x1.text, ((d.L.length : Nat) : Int))], lA := A4, lc := c4 }) HG3.out HOw3.out rfl)
   have hM4 : (V3.setCell ⟨a, 4, none⟩ (.slice A4 (d.labels.length + 1) c4)).cell? ⟨gw, 3, none⟩ = some (.string (bs x1.text)) := by
    have q := HL.out.2.own ((show OnB B X V1 by exact HX1.out).own HWx.out rfl) rfl
    exact q.cellAt 3 (by omega)
   refine hK.out _ _ hM4 (fun hHeld => ?_)
   clear hK K
   refine tk 18 ?_ rfl ?_ ?_
   rotate_left
   ·(intro w9 hS9; (try simp only [ga]); go_simp <;> rfl)
   refine tk 19 ?_ rfl ?_ ?_
   rotate_left
   ·(intro w9 hS9; (try simp only [ga]); go_simp <;> rfl)
   try simp only [Act.put, gp]
   refine wpAnyH_ready (rs := [20]) (by kernel_rfl) (by simp) ?_
   refine AllReadyH.cons rfl (fun K hK => ?_) AllReadyH.nil
   obtain ⟨V5, hV5⟩ : ∃ V9, V9 = V3.setCell ⟨a, 4, none⟩ (.slice A4 (d.labels.length + 1) c4) := ⟨_, rfl⟩
   have HD5 := hide (show DAt V5 B a { d with labels := d.labels ++ [(x1.text, ((d.L.length : Nat) : Int))], lA := A4, lc := c4 } by rw [hV5]; exact HL.out.1)
   have HO5 := hide (show OnB B w V5 by rw [hV5]; exact HO1.out.trans HL.out.2)
   have HX5 := hide (show OnB B X V5 by rw [hV5]; exact (show OnB B X V1 by exact HX1.out).trans HL.out.2)
   rw [← hV5]
   clear hV5 z4 y4
   have z7 := HD5.out.cells.2.2.2.2.2.2.2.1
   have y7 := HD5.out.frozen 7
   try simp only [ga]
   try go_simp
   have HC := hide (HD5.out.cell (d' := { d with labels := d.labels ++ [(x1.text, ((d.L.length : Nat) : Int))], lA := A4, lc := c4, opn := false }) 7 (.bool false) rfl)
   have hM6 : (V5.setCell ⟨a, 7, none⟩ (.bool false)).cell? ⟨gw, 3, none⟩ = some (.string (bs x1.text)) := by
    have q := HC.out.2.own (HX5.out.own HWx.out rfl) rfl
    exact q.cellAt 3 (by omega)
   refine hK.out _ _ hM6 (fun hHeld => ?_)
   clear hK K
   try simp only [Act.put, gp]
   refine wpAnyH_done (by kernel_rfl) ?_ _
   try simp only [Exit.then]
   clear hHeld
   go_wp2_with fail
   refine bodyPost_ret (v := .tuple #[]) (by simp [results, Tryz.results78, go_sem]) rfl ?_
   exact ⟨rfl, ⟨_, HC.out.1, by rw [HE.out]; rfl⟩, HO5.out.trans HC.out.2⟩
 ·
   obtain ⟨V1, hV1⟩ : ∃ V9, V9 = V0.alloc (.cells (encLb (x1.text, ((d.L.length : Nat) : Int))).toArray 146) := ⟨_, rfl⟩
   have HD1 := hide (HD0.out.alloc (.cells (encLb (x1.text, ((d.L.length : Nat) : Int))).toArray 146))
   have HO1 := hide (HO0.out.alloc (.cells (encLb (x1.text, ((d.L.length : Nat) : Int))).toArray 146))
   have HI1 := hide (Blk.new V0 146 (encLb (x1.text, ((d.L.length : Nat) : Int))).toArray)
   have HX1 := hide (show OnB B X V1 by rw [hV1]; exact HX0.out.alloc _)
   have M1 : V1.cell? ⟨gw, 3, none⟩ = some (.string (bs x1.text)) := by rw [hV1]; exact bkeep ((Below.refl _ V0).alloc (Nat.le_refl _) _) M0
   try simp only [ga]
   try go_simp
   rw [← hV1] at HD1 HO1 HI1
   simp only [encLb] at hV1
   rw [← hV1]
   clear hV1
   refine hK.out _ _ M1 (fun hHeld => ?_)
   clear hK K
   try simp only [Act.put, gp]
   refine wpAnyH_ready (rs := [5]) (by kernel_rfl) (by simp) ?_
   refine AllReadyH.cons rfl (fun K hK => ?_) AllReadyH.nil
   have c4 := HD1.out.cells.2.2.2.2.1
   try simp only [ga]
   try go_simp
   refine hK.out _ _ M1 (fun hHeld => ?_)
   clear hK K
   try simp only [Act.put, gp]
   refine wpAnyH_ready (rs := [14]) (by kernel_rfl) (by simp) ?_
   refine AllReadyH.cons rfl (fun K hK => ?_) AllReadyH.nil
   have hbs : B ≤ V1.heap.size := by have := HD1.out.lt; omega
   refine step_append_rd V1 (by rfl) (.tmp 138) (.tmp 146) _ (by rfl) B 146 ia _ 2 24 Tryz.underlying81 hia hz0 hz1 hz2 rfl (by omega) (.slice d.lA d.labels.length d.lc) d.labels.length (flat encLb d.labels) (by rfl) HD1.out.labels NoBlk (some ⟨V0.heap.size, 0, none⟩) 1 1 (encLb (x1.text, ((d.L.length : Nat) : Int))) (by rfl) (rd_blkN HI1.out (fun h => h)) rfl (encLb_one _) (by simp only [maxLen]; omega) (by omega) hbs ?_
   intro v3 V3 hown2 hgr how2
   obtain ⟨A4, c4, rfl, hc4⟩ := own_cap hown2
   rw [blkA_own] at hgr
   have HG3 := hide hgr
   have HOw3 := hide hown2
   have HBk3 := hide (grownBlk (v := .slice d.lA d.labels.length d.lc) HD1.out.blk (by rw [blkA_own]; exact hgr) HD1.out.labels (by decide))
   have hM3 : V3.cell? ⟨gw, 3, none⟩ = some (.string (bs x1.text)) := by
    have q := (OnB.of (B := B) (only_grow hgr) (fun g hg => own_ge HD1.out.labels g (by rw [blkA_own]; exact hg)) (fun g hg => own_blk HD1.out.labels (by rw [blkA_own]; exact hg)) (T := 146) rfl).own ((show OnB B X V1 by exact HX1.out).own HWx.out rfl) rfl
    exact q.cellAt 3 (by omega)
   clear hgr hown2 how2
   refine hK.out _ _ hM3 (fun hHeld => ?_)
   clear hK K
   refine tk 15 ?_ rfl ?_ ?_
   rotate_left
   ·(intro w9 hS9; (try simp only [ga]); go_simp <;> rfl)
   refine tk 16 ?_ rfl ?_ ?_
   rotate_left
   ·(intro w9 hS9; (try simp only [ga]); go_simp <;> rfl)
   try simp only [Act.put, gp]
   refine wpAnyH_ready (rs := [17]) (by kernel_rfl) (by simp) ?_
   refine AllReadyH.cons rfl (fun K hK => ?_) AllReadyH.nil
   have z4 : V3.cell? ⟨a, 4, none⟩ = some (.slice d.lA d.labels.length d.lc) := by rw [HBk3.out.cell]; rfl
   have y4 := HBk3.out.frozen 4
   try simp only [ga]
   try go_simp
   have HL := hide (HD1.out.label (d' := { d with labels := d.labels ++ [(x1.text, ((d.L.length : Nat) : Int))], lA := A4, lc := c4 }) HG3.out HOw3.out rfl)
   have hM4 : (V3.setCell ⟨a, 4, none⟩ (.slice A4 (d.labels.length + 1) c4)).cell? ⟨gw, 3, none⟩ = some (.string (bs x1.text)) := by
    have q := HL.out.2.own ((show OnB B X V1 by exact HX1.out).own HWx.out rfl) rfl
    exact q.cellAt 3 (by omega)
   refine hK.out _ _ hM4 (fun hHeld => ?_)
   clear hK K
   refine tk 18 ?_ rfl ?_ ?_
   rotate_left
   ·(intro w9 hS9; (try simp only [ga]); go_simp <;> rfl)
   refine tk 19 ?_ rfl ?_ ?_
   rotate_left
   ·(intro w9 hS9; (try simp only [ga]); go_simp <;> rfl)
   try simp only [Act.put, gp]
   refine wpAnyH_ready (rs := [20]) (by kernel_rfl) (by simp) ?_
   refine AllReadyH.cons rfl (fun K hK => ?_) AllReadyH.nil
   obtain ⟨V5, hV5⟩ : ∃ V9, V9 = V3.setCell ⟨a, 4, none⟩ (.slice A4 (d.labels.length + 1) c4) := ⟨_, rfl⟩
   have HD5 := hide (show DAt V5 B a { d with labels := d.labels ++ [(x1.text, ((d.L.length : Nat) : Int))], lA := A4, lc := c4 } by rw [hV5]; exact HL.out.1)
   have HO5 := hide (show OnB B w V5 by rw [hV5]; exact HO1.out.trans HL.out.2)
   have HX5 := hide (show OnB B X V5 by rw [hV5]; exact (show OnB B X V1 by exact HX1.out).trans HL.out.2)
   rw [← hV5]
   clear hV5 z4 y4
   have z7 := HD5.out.cells.2.2.2.2.2.2.2.1
   have y7 := HD5.out.frozen 7
   try simp only [ga]
   try go_simp
   have HC := hide (HD5.out.cell (d' := { d with labels := d.labels ++ [(x1.text, ((d.L.length : Nat) : Int))], lA := A4, lc := c4, opn := false }) 7 (.bool false) rfl)
   have hM6 : (V5.setCell ⟨a, 7, none⟩ (.bool false)).cell? ⟨gw, 3, none⟩ = some (.string (bs x1.text)) := by
    have q := HC.out.2.own (HX5.out.own HWx.out rfl) rfl
    exact q.cellAt 3 (by omega)
   refine hK.out _ _ hM6 (fun hHeld => ?_)
   clear hK K
   try simp only [Act.put, gp]
   refine wpAnyH_done (by kernel_rfl) ?_ _
   try simp only [Exit.then]
   clear hHeld
   go_wp2_with fail
   refine bodyPost_ret (v := .tuple #[]) (by simp [results, Tryz.results78, go_sem]) rfl ?_
   exact ⟨rfl, ⟨_, HC.out.1, by rw [HE.out]; rfl⟩, HO5.out.trans HC.out.2⟩
end Go.Proofs.YtaioaojfdngfdaaGreatDoor
