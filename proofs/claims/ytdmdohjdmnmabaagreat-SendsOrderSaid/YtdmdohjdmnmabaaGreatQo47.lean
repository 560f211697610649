/- One's script, and his life. Conditions: those of each theorem. -/
import Derived.Test.YtdmdohjdmnmabaaGreatQo46
namespace Go.Proofs.YtdmdohjdmnmabaaGreat
open Go.RowKit
set_option linter.unusedVariables false
set_option linter.unusedSimpArgs false

theorem put9f (w : World) (g : Nat) (a b c d e f h i j : Value) : ((((((((w.setCell ⟨g, 0, none⟩ a).setCell ⟨g, 1, none⟩ b).setCell ⟨g, 2, none⟩ c).setCell ⟨g, 3, none⟩ d).setCell ⟨g, 4, none⟩ e).setCell ⟨g, 5, none⟩ f).setCell ⟨g, 6, none⟩ h).setCell ⟨g, 7, none⟩ i).setCell ⟨g, 8, none⟩ j = putFrom w g 0 [a, b, c, d, e, f, h, i, j] := rfl
theorem ids_fold (L : List Int) : ∀ (s : List Int) (y : Int), y ∈ L.foldl (fun s x => insU x s) s → y ∈ s ∨ y ∈ L := by
  induction L with
  | nil => intro s y h; exact Or.inl h
  | cons a r ih =>
    intro s y h
    rcases ih _ y h with h | h
    · rcases (insU_mem a s y).1 h with rfl | h
      · exact Or.inr (List.mem_cons_self ..)
      · exact Or.inl h
    · exact Or.inr (List.mem_cons_of_mem _ h)
theorem life_some (id : Int) : ∀ (l : List Ev) (c : Int), (∃ e ∈ l, e.k = 2 ∧ e.id = id) → (lifeGo id c l).isSome = true := by
  intro l
  induction l with
  | nil => rintro c ⟨e, he, _⟩; cases he
  | cons x r ih =>
    rintro c ⟨e, he, h1, h2⟩
    unfold lifeGo
    by_cases ho : opens id x = true
    · rw [if_pos ho]; rfl
    · rw [if_neg ho]
      refine ih _ ⟨e, ?_, h1, h2⟩
      rcases List.mem_cons.1 he with rfl | he
      · exact absurd (by unfold opens; simp [h1, h2]) ho
      · exact he
theorem ids_some {l : List Ev} {id : Int} (h : id ∈ idsL l) : (lifeGo id 0 l).isSome = true := by
  refine life_some id l 0 ?_
  rcases ids_fold (openedL l) [] id h with h | h
  · cases h
  · unfold openedL at h
    obtain ⟨e, he, rfl⟩ := List.mem_map.1 h
    rw [List.mem_filter] at he
    exact ⟨e, he.1, by simpa using he.2, rfl⟩
/-- whether there is such a life, and a script of his that may be -/
def scrO (Ps : List PrV) (l : List Ev) (id : Int) : Bool := (lifeGo id 0 l).isSome && scrB Ps l id
def prC (B : Bool) (v : PrV) : Array Value := if B = true then (encPr v).toArray else #[.string ⟨#[]⟩, .int .i64 0, .int .i64 0, .slice none 0 0]
set_option maxRecDepth 100000 in
set_option maxHeartbeats 12800000 in
theorem script_c (SA : Option Addr) (sc : Nat) (Ps : List PrV) (A : Option Addr) (c : Nat) (l : List Ev) (id : Int) (w : World) (hs : PrsRd w NoBlk SA Ps) (hsn : Ps.length ≤ maxLen) (hsz : ∀ v ∈ Ps, PrSz v) (hr : Rd w NoBlk A (flat encEv l)) (hn : l.length ≤ 1000) (hx : ∀ x ∈ l, x.s.size ≤ 100) (hlc : l.length ≤ c) :
    Calls Tryz.prog 71 #[.slice SA Ps.length sc, .slice A l.length c, .int .i64 id] w fun e w' => (∃ (lwho sn lstart : Int) (LA : Option Addr) (i0 lc : Nat) (LB : Option Addr) (s0 ld : Nat) (lread : ByteArray) (leof : Bool) (lstatus : Int),
      e = .returned (.tuple #[.agg (prC (scrO Ps l id) (prAt Ps (scrN l id).toNat)), .agg #[.int .i64 lwho, .int .i64 sn, .int .i64 lstart, .slice LA i0 lc, .slice LB s0 ld, .string lread, .string (lifeO (lifeGo id 0 l)).taken, .bool leof, .int .i64 lstatus], .bool (scrO Ps l id)])) ∧ Only NoBlk w w' := by
  have hsn' : Ps.length ≤ 9223372036854775807 := hsn
  have HOf := hide (fun (w' : World) (k : Only NoBlk w w') => Of_c NoBlk A c l id w' (hr.only k (fun _ h => h)) (by omega) hx hlc (fun k h => h.elim))
  have HPr := hide (fun (w' : World) (k : Only NoBlk w w') (i : Nat) (hi : i < Ps.length) => pr_cells ((hs.only k (fun _ h => h)).1) i hi)
  have HGood := hide (fun (w' : World) (k : Only NoBlk w w') (i : Nat) (hi : i < Ps.length) => pGood_c (prAt Ps i).s (prAt Ps i).d (prAt Ps i).j (prAt Ps i).PA (prAt Ps i).pc (prAt Ps i).L w' ((hs.only k (fun _ h => h)).2 _ (prAt_mem hi)) (hsz _ (prAt_mem hi)).1 (hsz _ (prAt_mem hi)).2.1 (hsz _ (prAt_mem hi)).2.2)
  obtain ⟨np, hnp⟩ : ∃ np, np = Ps.length := ⟨_, rfl⟩
  have Hnp := hide hnp
  obtain ⟨B, hB⟩ : ∃ B, B = scrO Ps l id := ⟨_, rfl⟩
  have HBB := hide hB
  rw [← hB]
  rw [← hnp] at HPr HGood hsn' ⊢
  clear hs hsn hsz hr hx hnp hB
  go_enter Tryz.func71, Tryz.ntmps71
  go_upto_region 1 with fail
  obtain ⟨W0, hW0⟩ : ∃ W0, W0 = (w.alloc (.cells #[.string ⟨#[]⟩, .int .i64 0, .int .i64 0, .slice none 0 0] 24)).alloc (.cells #[.int .i64 0, .int .i64 0, .int .i64 0, .slice none 0 0, .slice none 0 0, .string ⟨#[]⟩, .string ⟨#[]⟩, .bool false, .int .i64 0] 118) := ⟨_, rfl⟩
  have HO0 := hide (show Only NoBlk w W0 by rw [hW0]; exact ((Only.refl _ w).alloc _).alloc _)
  have HG1 := hide (show Blk W0 w.heap.size 24 #[.string ⟨#[]⟩, .int .i64 0, .int .i64 0, .slice none 0 0] by rw [hW0]; exact (Blk.new _ _ _).alloc _)
  have HG2 := hide (show Blk W0 (w.heap.size + 1) 118 #[.int .i64 0, .int .i64 0, .int .i64 0, .slice none 0 0, .slice none 0 0, .string ⟨#[]⟩, .string ⟨#[]⟩, .bool false, .int .i64 0] by rw [hW0]; exact Blk.new' (by simp))
  rw [← hW0]
  clear hW0
  go_wp2_with fail
  refine (HOf.out _ HO0.out).mono ?_
  intro e w3 he
  obtain ⟨hb3, LA, lc, LB, ld, rfl, _, _⟩ := ret_one he
  obtain ⟨sn, hsn2⟩ : ∃ sn, sn = scrN l id := ⟨_, rfl⟩
  have HN0 := hide hsn2
  have hsn3 : (lifeO (lifeGo id 0 l)).script = sn := hsn2.symm
  rw [hsn3]
  obtain ⟨i0, hi0⟩ : ∃ i0, i0 = (lifeO (lifeGo id 0 l)).ins.length := ⟨_, rfl⟩
  obtain ⟨s0, hs0⟩ : ∃ s0, s0 = (lifeO (lifeGo id 0 l)).steps.length := ⟨_, rfl⟩
  rw [← hi0, ← hs0]
  obtain ⟨lis, hlis⟩ : ∃ lis, lis = (lifeGo id 0 l).isSome := ⟨_, rfl⟩
  have HB2 := hide (show B = (lis && scrB Ps l id) by rw [HBB.out, hlis]; rfl)
  obtain ⟨ltaken, hlt⟩ : ∃ lt, lt = (lifeO (lifeGo id 0 l)).taken := ⟨_, rfl⟩
  rw [← hlis, ← hlt]
  generalize (lifeO (lifeGo id 0 l)).start = lstart
  generalize (lifeO (lifeGo id 0 l)).read = lread
  generalize (lifeO (lifeGo id 0 l)).eof = leof
  generalize (lifeO (lifeGo id 0 l)).status = lstatus
  generalize whoL id (lifeGo id 0 l) = lwho
  have HO3 := hide (HO0.out.trans (Only.of_below hb3 NoBlk))
  have HG13 := hide (HG1.out.below hb3)
  have HG23 := hide (HG2.out.below hb3)
  have HSB := hide (show scrB Ps l id = ((decide (0 ≤ sn) && decide (sn < Ps.length)) && goodM (prM (prAt Ps sn.toNat))) by unfold scrB; rw [← hsn2])
  rw [← Hnp.out] at HSB
  have HLtk := hide hlt
  clear he hb3 hi0 hs0 hsn3 hsn2 hlis hlt HO0 HG1 HG2
  go_upto_region 2 with fail
  obtain ⟨W4, hW4⟩ : ∃ W4, W4 = w3.alloc (.cells #[.int .i64 lwho, .int .i64 sn, .int .i64 lstart, .slice LA i0 lc, .slice LB s0 ld, .string lread, .string ltaken, .bool leof, .int .i64 lstatus] 118) := ⟨_, rfl⟩
  obtain ⟨xg, hxg⟩ : ∃ xg, xg = w3.heap.size := ⟨_, rfl⟩
  have HLf := hide (show Blk W4 xg 118 #[.int .i64 lwho, .int .i64 sn, .int .i64 lstart, .slice LA i0 lc, .slice LB s0 ld, .string lread, .string ltaken, .bool leof, .int .i64 lstatus] by rw [hW4, hxg]; exact Blk.new _ _ _)
  have HO4 := hide (show Only NoBlk w W4 by rw [hW4]; exact HO3.out.alloc _)
  have HG14 := hide (show Blk W4 w.heap.size 24 #[.string ⟨#[]⟩, .int .i64 0, .int .i64 0, .slice none 0 0] by rw [hW4]; exact HG13.out.alloc _)
  have HG24 := hide (show Blk W4 (w.heap.size + 1) 118 #[.int .i64 0, .int .i64 0, .int .i64 0, .slice none 0 0, .slice none 0 0, .string ⟨#[]⟩, .string ⟨#[]⟩, .bool false, .int .i64 0] by rw [hW4]; exact HG23.out.alloc _)
  have hx1 : w.heap.size + 1 < xg := by have := HG23.out.lt; omega
  rw [← hW4]
  rw [← hxg]
  clear hW4 hxg HO3 HG13 HG23
  obtain ⟨⟨x0, x1, x2, x3, x4, x5, x6, x7, x8⟩, _⟩ := HLf.out.nine
  go_cut [39] from 17 to 38 (fun v wx => v = .bool (!B) ∧ Hid (Only NoBlk W4 wx))
  case first =>
    cases lis with
    | false =>
      have HQ := hide (show B = false by rw [HB2.out]; rfl)
      clear HSB HB2
      go_wp2_with fail
      go_meet
      exact ⟨by rw [HQ.out]; rfl, hide (Only.refl _ _)⟩
    | true =>
      by_cases hs0 : sn < 0
      · have b0 : decide (sn < 0) = true := by simp [hs0]
        have HQ := hide (show B = false by rw [HB2.out, HSB.out, show decide (0 ≤ sn) = false by simp; omega]; rfl)
        clear hs0
        go_wp2_with fail
        go_meet
        exact ⟨by rw [HQ.out]; rfl, hide (Only.refl _ _)⟩
      · have b0 : decide (sn < 0) = false := by simp; omega
        by_cases hs1 : (np : Int) ≤ sn
        · have b1 : decide ((np : Int) ≤ sn) = true := by simp [hs1]
          have HQ := hide (show B = false by rw [HB2.out, HSB.out, show decide (sn < (np : Int)) = false by simp; omega]; simp)
          clear hs0 hs1
          go_wp2_with fail
          go_meet
          exact ⟨by rw [HQ.out]; rfl, hide (Only.refl _ _)⟩
        · have b1 : decide ((np : Int) ≤ sn) = false := by simp; omega
          obtain ⟨q, hq⟩ : ∃ q : Nat, sn = q := ⟨sn.toNat, by omega⟩
          subst hq
          have hqn : q < np := by omega
          have hqt : ((q : Int).toNat) = q := by omega
          rw [hqt] at HSB
          have HQ := hide (show B = goodM (prM (prAt Ps q)) by rw [HB2.out, HSB.out, show decide ((0 : Int) ≤ (q : Int)) = true by simp, show decide ((q : Int) < (np : Int)) = true by simp; omega]; rfl)
          have HGq := hide (fun (w' : World) (k : Only NoBlk w w') => HGood.out w' k q hqn)
          obtain ⟨pb, po, rfl, hpb, p0, p1, p2, p3⟩ := HPr.out W4 HO4.out q hqn
          obtain ⟨gd, hgd⟩ : ∃ gd, gd = goodM (prM (prAt Ps q)) := ⟨_, rfl⟩
          have hgd' : goodM (progM (prAt Ps q).s (prAt Ps q).d (prAt Ps q).j (prAt Ps q).L) = gd := hgd.symm
          rw [hgd'] at HGq
          rw [← hgd] at HQ
          clear hgd hgd' hs0 hs1 HSB HB2
          obtain ⟨v, hv⟩ : ∃ v, v = prAt Ps q := ⟨_, rfl⟩
          rw [← hv] at p0 p1 p2 p3 HGq
          obtain ⟨vs, vd, vj, vPA, vpc, vL⟩ := v
          obtain ⟨vn, hvn⟩ : ∃ vn, vn = vL.length := ⟨_, rfl⟩
          simp only at p0 p1 p2 p3 HGq
          rw [← hvn] at p3 HGq
          clear hvn hv
          have i1 : (0 : Int) ≤ (q : Int) := by omega
          have i2 : (q : Int) < (np : Int) := by omega
          go_wp2_with fail
          refine (HGq.out _ HO4.out).mono ?_
          rintro e w5 ⟨rfl, ho5⟩
          have HO5 := hide ho5
          clear ho5
          go_wp2_with fail
          go_meet
          exact ⟨by rw [HQ.out]; simp; omega, HO5⟩
  case rest =>
    obtain ⟨rfl, hox⟩ := hcut
    clear x0 x1 x2 x3 x4 x5 x6 x7 x8
    have HLx := hide (HLf.out.only hox.out (fun h => h))
    have HOx := hide (HO4.out.trans hox.out)
    have HG1x := hide (HG14.out.only hox.out (fun h => h))
    have HG2x := hide (HG24.out.only hox.out (fun h => h))
    clear HLf HO4 HG14 HG24 hox
    have hne1 : ¬ xg = w.heap.size := by omega
    have hne2 : ¬ xg = w.heap.size + 1 := by omega
    cases B with
    | false =>
      go_upto_region 3 with fail
      obtain ⟨V0, hV0⟩ : ∃ V9, V9 = wc.drew := ⟨_, rfl⟩
      have HL0 := hide (show Blk V0 xg 118 #[.int .i64 lwho, .int .i64 sn, .int .i64 lstart, .slice LA i0 lc, .slice LB s0 ld, .string lread, .string ltaken, .bool leof, .int .i64 lstatus] by rw [hV0]; exact HLx.out.drew)
      have HO0 := hide (show Only NoBlk w V0 by rw [hV0]; exact HOx.out.drew)
      have HG10 := hide (show Blk V0 w.heap.size 24 #[.string ⟨#[]⟩, .int .i64 0, .int .i64 0, .slice none 0 0] by rw [hV0]; exact HG1x.out.drew)
      have HG20 := hide (show Blk V0 (w.heap.size + 1) 118 #[.int .i64 0, .int .i64 0, .int .i64 0, .slice none 0 0, .slice none 0 0, .string ⟨#[]⟩, .string ⟨#[]⟩, .bool false, .int .i64 0] by rw [hV0]; exact HG2x.out.drew)
      refine wp_region_held (S := fun w' => w'.cell? ⟨xg, 0, none⟩ = some (.int .i64 lwho) ∧ w'.cell? ⟨xg, 1, none⟩ = some (.int .i64 sn) ∧ w'.cell? ⟨xg, 2, none⟩ = some (.int .i64 lstart) ∧ w'.cell? ⟨xg, 3, none⟩ = some (.slice LA i0 lc) ∧ w'.cell? ⟨xg, 4, none⟩ = some (.slice LB s0 ld) ∧ w'.cell? ⟨xg, 5, none⟩ = some (.string lread) ∧ w'.cell? ⟨xg, 6, none⟩ = some (.string ltaken) ∧ w'.cell? ⟨xg, 7, none⟩ = some (.bool leof) ∧ w'.cell? ⟨xg, 8, none⟩ = some (.int .i64 lstatus)) (by kernel_rfl) ?_
      change wpAnyH _ _ _ _ _ _ _ _ wc.drew
      have hHeld : (fun w' => w'.cell? ⟨xg, 0, none⟩ = some (.int .i64 lwho) ∧ w'.cell? ⟨xg, 1, none⟩ = some (.int .i64 sn) ∧ w'.cell? ⟨xg, 2, none⟩ = some (.int .i64 lstart) ∧ w'.cell? ⟨xg, 3, none⟩ = some (.slice LA i0 lc) ∧ w'.cell? ⟨xg, 4, none⟩ = some (.slice LB s0 ld) ∧ w'.cell? ⟨xg, 5, none⟩ = some (.string lread) ∧ w'.cell? ⟨xg, 6, none⟩ = some (.string ltaken) ∧ w'.cell? ⟨xg, 7, none⟩ = some (.bool leof) ∧ w'.cell? ⟨xg, 8, none⟩ = some (.int .i64 lstatus)) wc.drew := by rw [← hV0]; exact (by obtain ⟨⟨q0, q1, q2, q3, q4, q5, q6, q7, q8⟩, _⟩ := (HL0.out).nine; exact ⟨q0, q1, q2, q3, q4, q5, q6, q7, q8⟩)
      rw [← hV0] at hHeld ⊢
      simp only [List.size_toArray, List.length_cons, List.length_nil, Nat.zero_add, Nat.reduceAdd]
      clear hV0
      refine wpAnyH_take (i := 0) (v := .agg #[.string ⟨#[]⟩, .int .i64 0, .int .i64 0, .slice none 0 0]) rfl (by kernel_rfl) (by kernel_rfl) (by kernel_rfl) (fun _ _ _ h => h) (Or.inl ⟨by rfl, ?_⟩) (by assumption) ?_
      · (intro w9 hS9; try simp only [List.getElem_toArray, List.getElem_cons_zero, List.getElem_cons_succ]
         go_simp <;> rfl)
      refine wpAnyH_take (i := 1) (v := ?_) rfl (by kernel_rfl) (by kernel_rfl) (by kernel_rfl) (fun _ _ _ h => h) (Or.inl ⟨by rfl, ?_⟩) (by assumption) ?_
      rotate_left
      · (intro w9 hS9; try simp only [List.getElem_toArray, List.getElem_cons_zero, List.getElem_cons_succ]
         go_simp <;> rfl)
      try simp only [Act.put, List.setIfInBounds_toArray, List.set_cons_zero, List.set_cons_succ, List.getElem_toArray, List.getElem_cons_zero, List.getElem_cons_succ]
      obtain ⟨⟨_, _, _, _⟩, e0, e1, e2, e3⟩ := HG10.out.four
      obtain ⟨⟨c0, c1, c2, c3⟩, _⟩ := HG10.out.four
      refine wpAnyH_ready (rs := [2]) (by kernel_rfl) (by simp) ?_
      refine AllReadyH.cons rfl (fun K hK => ?_) AllReadyH.nil
      try simp only [List.getElem_toArray, List.getElem_cons_zero, List.getElem_cons_succ]
      try go_simp
      rw [put4]
      obtain ⟨V1, hV1⟩ : ∃ V9, V9 = putFrom V0 w.heap.size 0 [.string ⟨#[]⟩, .int .i64 0, .int .i64 0, .slice none 0 0] := ⟨_, rfl⟩
      have HL1 := hide (show Blk V1 xg 118 #[.int .i64 lwho, .int .i64 sn, .int .i64 lstart, .slice LA i0 lc, .slice LB s0 ld, .string lread, .string ltaken, .bool leof, .int .i64 lstatus] by rw [hV1]; exact HL0.out.only (only_put _ 0 V0 _) (fun h => hne1 h))
      have HO1 := hide (show Only NoBlk w V1 by rw [hV1]; exact HO0.out.fresh (only_put _ 0 V0 _) (fun i _ h => Or.inr (by have : i = w.heap.size := h; omega)))
      have HG11 := hide (show Blk V1 w.heap.size 24 #[.string ⟨#[]⟩, .int .i64 0, .int .i64 0, .slice none 0 0] by rw [hV1]; exact HG10.out.put [.string ⟨#[]⟩, .int .i64 0, .int .i64 0, .slice none 0 0] rfl)
      have HG21 := hide (show Blk V1 (w.heap.size + 1) 118 #[.int .i64 0, .int .i64 0, .int .i64 0, .slice none 0 0, .slice none 0 0, .string ⟨#[]⟩, .string ⟨#[]⟩, .bool false, .int .i64 0] by rw [hV1]; exact HG20.out.only (only_put _ 0 V0 _) (fun h => by have : w.heap.size + 1 = w.heap.size := h; omega))
      rw [← hV1]
      clear hV1 c0 c1 c2 c3 e0 e1 e2 e3
      refine hK.out _ _ (by obtain ⟨⟨q0, q1, q2, q3, q4, q5, q6, q7, q8⟩, _⟩ := (HL1.out).nine; exact ⟨q0, q1, q2, q3, q4, q5, q6, q7, q8⟩) (fun hHeld => ?_)
      clear hK K
      try simp only [Act.put, List.setIfInBounds_toArray, List.set_cons_zero, List.set_cons_succ, List.getElem_toArray, List.getElem_cons_zero, List.getElem_cons_succ]
      obtain ⟨⟨c0, c1, c2, c3, c4, c5, c6, c7, c8⟩, e0, e1, e2, e3, e4, e5, e6, e7, e8⟩ := HG21.out.nine
      refine wpAnyH_ready (rs := [3]) (by kernel_rfl) (by simp) ?_
      refine AllReadyH.cons rfl (fun K hK => ?_) AllReadyH.nil
      try simp only [List.getElem_toArray, List.getElem_cons_zero, List.getElem_cons_succ]
      try go_simp
      rw [put9f]
      obtain ⟨V2, hV2⟩ : ∃ V9, V9 = putFrom V1 (w.heap.size + 1) 0 [.int .i64 lwho, .int .i64 sn, .int .i64 lstart, .slice LA i0 lc, .slice LB s0 ld, .string lread, .string ltaken, .bool leof, .int .i64 lstatus] := ⟨_, rfl⟩
      have HL2 := hide (show Blk V2 xg 118 #[.int .i64 lwho, .int .i64 sn, .int .i64 lstart, .slice LA i0 lc, .slice LB s0 ld, .string lread, .string ltaken, .bool leof, .int .i64 lstatus] by rw [hV2]; exact HL1.out.only (only_put _ 0 V1 _) (fun h => hne2 h))
      have HO2 := hide (show Only NoBlk w V2 by rw [hV2]; exact HO1.out.fresh (only_put _ 0 V1 _) (fun i _ h => Or.inr (by have : i = w.heap.size + 1 := h; omega)))
      have HG12 := hide (show Blk V2 w.heap.size 24 #[.string ⟨#[]⟩, .int .i64 0, .int .i64 0, .slice none 0 0] by rw [hV2]; exact HG11.out.only (only_put _ 0 V1 _) (fun h => by have : w.heap.size = w.heap.size + 1 := h; omega))
      have HG22 := hide (show Blk V2 (w.heap.size + 1) 118 #[.int .i64 lwho, .int .i64 sn, .int .i64 lstart, .slice LA i0 lc, .slice LB s0 ld, .string lread, .string ltaken, .bool leof, .int .i64 lstatus] by rw [hV2]; exact HG21.out.put [.int .i64 lwho, .int .i64 sn, .int .i64 lstart, .slice LA i0 lc, .slice LB s0 ld, .string lread, .string ltaken, .bool leof, .int .i64 lstatus] rfl)
      rw [← hV2]
      clear hV2 c0 c1 c2 c3 c4 c5 c6 c7 c8 e0 e1 e2 e3 e4 e5 e6 e7 e8
      refine hK.out _ _ (by obtain ⟨⟨q0, q1, q2, q3, q4, q5, q6, q7, q8⟩, _⟩ := (HL2.out).nine; exact ⟨q0, q1, q2, q3, q4, q5, q6, q7, q8⟩) (fun hHeld => ?_)
      clear hK K
      refine wpAnyH_take (i := 4) (v := ?_) rfl (by kernel_rfl) (by kernel_rfl) (by kernel_rfl) (fun _ _ _ h => h) (Or.inl ⟨by rfl, ?_⟩) (by assumption) ?_
      rotate_left
      · (intro w9 hS9; try simp only [List.getElem_toArray, List.getElem_cons_zero, List.getElem_cons_succ]
         go_simp <;> rfl)
      try simp only [Act.put, List.setIfInBounds_toArray, List.set_cons_zero, List.set_cons_succ, List.getElem_toArray, List.getElem_cons_zero, List.getElem_cons_succ]
      refine wpAnyH_done (by kernel_rfl) ?_ _
      try simp only [Exit.then]
      clear hHeld
      go_wp2_with fail
      obtain ⟨⟨c0, c1, c2, c3⟩, _⟩ := HG12.out.four
      obtain ⟨⟨d0, d1, d2, d3, d4, d5, d6, d7, d8⟩, _⟩ := HG22.out.nine
      refine bodyPost_ret (v := .tuple #[.agg #[.string ⟨#[]⟩, .int .i64 0, .int .i64 0, .slice none 0 0], .agg #[.int .i64 lwho, .int .i64 sn, .int .i64 lstart, .slice LA i0 lc, .slice LB s0 ld, .string lread, .string ltaken, .bool leof, .int .i64 lstatus], .bool false]) (by simp [results, Tryz.results71, go_sem, c0, c1, c2, c3, d0, d1, d2, d3, d4, d5, d6, d7, d8]) rfl ?_
      exact ⟨⟨lwho, sn, lstart, LA, i0, lc, LB, s0, ld, lread, leof, lstatus, by rw [HLtk.out]; rfl⟩, HO2.out⟩
    | true =>
      have hh := HB2.out.symm
      simp only [Bool.and_eq_true] at hh
      have hh2 := hh.2
      rw [HSB.out] at hh2
      simp only [Bool.and_eq_true, decide_eq_true_eq] at hh2
      obtain ⟨⟨hq0, hq1⟩, _⟩ := hh2
      obtain ⟨q, hq⟩ : ∃ q : Nat, sn = q := ⟨sn.toNat, by omega⟩
      have HSN := hide (show (scrN l id).toNat = q by rw [← HN0.out, hq]; omega)
      subst hq
      have hqn : q < np := by omega
      have i1 : (0 : Int) ≤ (q : Int) := by omega
      have i2 : (q : Int) < (np : Int) := by omega
      have HPq := hide (fun (w' : World) (k : Only NoBlk w w') => HPr.out w' k q hqn)
      obtain ⟨pb, po, hSA, hpb, _⟩ := HPq.out _ HOx.out
      subst hSA
      have HPc := hide (show ∀ (w' : World) (k : Only NoBlk w w'), w'.cell? ⟨pb, po + q * 4, none⟩ = some (.string (prAt Ps q).s) ∧ w'.cell? ⟨pb, po + q * 4 + 1, none⟩ = some (.int .i64 (prAt Ps q).d) ∧ w'.cell? ⟨pb, po + q * 4 + 2, none⟩ = some (.int .i64 (prAt Ps q).j) ∧ w'.cell? ⟨pb, po + q * 4 + 3, none⟩ = some (.slice (prAt Ps q).PA (prAt Ps q).L.length (prAt Ps q).pc) from fun w' k => by
        obtain ⟨b2, o2, h2, _, h3⟩ := HPq.out w' k
        injection h2 with h2
        injection h2 with h4 h5
        subst h4 h5
        exact h3)
      obtain ⟨v, hv⟩ : ∃ v, v = prAt Ps q := ⟨_, rfl⟩
      rw [← hv] at HPc
      have HV := hide hv
      obtain ⟨vs, vd, vj, vPA, vpc, vL⟩ := v
      simp only at HPc
      obtain ⟨vn, hvn⟩ : ∃ vn, vn = vL.length := ⟨_, rfl⟩
      rw [← hvn] at HPc
      have HVn := hide hvn
      clear hh hq0 hq1 HSB HB2 hv hvn
      go_upto_region 4 with fail
      obtain ⟨V0, hV0⟩ : ∃ V9, V9 = wc.drew := ⟨_, rfl⟩
      have HL0 := hide (show Blk V0 xg 118 #[.int .i64 lwho, .int .i64 (q : Int), .int .i64 lstart, .slice LA i0 lc, .slice LB s0 ld, .string lread, .string ltaken, .bool leof, .int .i64 lstatus] by rw [hV0]; exact HLx.out.drew)
      have HO0 := hide (show Only NoBlk w V0 by rw [hV0]; exact HOx.out.drew)
      have HG10 := hide (show Blk V0 w.heap.size 24 #[.string ⟨#[]⟩, .int .i64 0, .int .i64 0, .slice none 0 0] by rw [hV0]; exact HG1x.out.drew)
      have HG20 := hide (show Blk V0 (w.heap.size + 1) 118 #[.int .i64 0, .int .i64 0, .int .i64 0, .slice none 0 0, .slice none 0 0, .string ⟨#[]⟩, .string ⟨#[]⟩, .bool false, .int .i64 0] by rw [hV0]; exact HG2x.out.drew)
      refine wp_region_held (S := fun w' => w'.cell? ⟨xg, 0, none⟩ = some (.int .i64 lwho) ∧ w'.cell? ⟨xg, 1, none⟩ = some (.int .i64 (q : Int)) ∧ w'.cell? ⟨xg, 2, none⟩ = some (.int .i64 lstart) ∧ w'.cell? ⟨xg, 3, none⟩ = some (.slice LA i0 lc) ∧ w'.cell? ⟨xg, 4, none⟩ = some (.slice LB s0 ld) ∧ w'.cell? ⟨xg, 5, none⟩ = some (.string lread) ∧ w'.cell? ⟨xg, 6, none⟩ = some (.string ltaken) ∧ w'.cell? ⟨xg, 7, none⟩ = some (.bool leof) ∧ w'.cell? ⟨xg, 8, none⟩ = some (.int .i64 lstatus) ∧ w'.cell? ⟨pb, po + q * 4, none⟩ = some (.string vs) ∧ w'.cell? ⟨pb, po + q * 4 + 1, none⟩ = some (.int .i64 vd) ∧ w'.cell? ⟨pb, po + q * 4 + 2, none⟩ = some (.int .i64 vj) ∧ w'.cell? ⟨pb, po + q * 4 + 3, none⟩ = some (.slice vPA vn vpc)) (by kernel_rfl) ?_
      change wpAnyH _ _ _ _ _ _ _ _ wc.drew
      have hHeld : (fun w' => w'.cell? ⟨xg, 0, none⟩ = some (.int .i64 lwho) ∧ w'.cell? ⟨xg, 1, none⟩ = some (.int .i64 (q : Int)) ∧ w'.cell? ⟨xg, 2, none⟩ = some (.int .i64 lstart) ∧ w'.cell? ⟨xg, 3, none⟩ = some (.slice LA i0 lc) ∧ w'.cell? ⟨xg, 4, none⟩ = some (.slice LB s0 ld) ∧ w'.cell? ⟨xg, 5, none⟩ = some (.string lread) ∧ w'.cell? ⟨xg, 6, none⟩ = some (.string ltaken) ∧ w'.cell? ⟨xg, 7, none⟩ = some (.bool leof) ∧ w'.cell? ⟨xg, 8, none⟩ = some (.int .i64 lstatus) ∧ w'.cell? ⟨pb, po + q * 4, none⟩ = some (.string vs) ∧ w'.cell? ⟨pb, po + q * 4 + 1, none⟩ = some (.int .i64 vd) ∧ w'.cell? ⟨pb, po + q * 4 + 2, none⟩ = some (.int .i64 vj) ∧ w'.cell? ⟨pb, po + q * 4 + 3, none⟩ = some (.slice vPA vn vpc)) wc.drew := by rw [← hV0]; exact (by obtain ⟨⟨q0, q1, q2, q3, q4, q5, q6, q7, q8⟩, _⟩ := (HL0.out).nine; obtain ⟨r0, r1, r2, r3⟩ := HPc.out _ (HO0.out); exact ⟨q0, q1, q2, q3, q4, q5, q6, q7, q8, r0, r1, r2, r3⟩)
      rw [← hV0] at hHeld ⊢
      simp only [List.size_toArray, List.length_cons, List.length_nil, Nat.zero_add, Nat.reduceAdd]
      clear hV0
      refine wpAnyH_take (i := 0) (v := ?_) rfl (by kernel_rfl) (by kernel_rfl) (by kernel_rfl) (fun _ _ _ h => h) (Or.inl ⟨by rfl, ?_⟩) (by assumption) ?_
      rotate_left
      · (intro w9 hS9; try simp only [List.getElem_toArray, List.getElem_cons_zero, List.getElem_cons_succ]
         go_simp <;> rfl)
      refine wpAnyH_take (i := 1) (v := ?_) rfl (by kernel_rfl) (by kernel_rfl) (by kernel_rfl) (fun _ _ _ h => h) (Or.inl ⟨by rfl, ?_⟩) (by assumption) ?_
      rotate_left
      · (intro w9 hS9; try simp only [List.getElem_toArray, List.getElem_cons_zero, List.getElem_cons_succ]
         go_simp <;> rfl)
      refine wpAnyH_take (i := 2) (v := ?_) rfl (by kernel_rfl) (by kernel_rfl) (by kernel_rfl) (fun _ _ _ h => h) (Or.inl ⟨by rfl, ?_⟩) (by assumption) ?_
      rotate_left
      · (intro w9 hS9; try simp only [List.getElem_toArray, List.getElem_cons_zero, List.getElem_cons_succ]
         go_simp <;> rfl)
      refine wpAnyH_take (i := 3) (v := ?_) rfl (by kernel_rfl) (by kernel_rfl) (by kernel_rfl) (fun _ _ _ h => h) (Or.inl ⟨by rfl, ?_⟩) (by assumption) ?_
      rotate_left
      · (intro w9 hS9; try simp only [List.getElem_toArray, List.getElem_cons_zero, List.getElem_cons_succ]
         go_simp <;> rfl)
      refine wpAnyH_take (i := 4) (v := ?_) rfl (by kernel_rfl) (by kernel_rfl) (by kernel_rfl) (fun _ _ _ h => h) (Or.inl ⟨by rfl, ?_⟩) (by assumption) ?_
      rotate_left
      · (intro w9 hS9; try simp only [List.getElem_toArray, List.getElem_cons_zero, List.getElem_cons_succ]
         go_simp <;> rfl)
      refine wpAnyH_take (i := 5) (v := ?_) rfl (by kernel_rfl) (by kernel_rfl) (by kernel_rfl) (fun _ _ _ h => h) (Or.inl ⟨by rfl, ?_⟩) (by assumption) ?_
      rotate_left
      · (intro w9 hS9; try simp only [List.getElem_toArray, List.getElem_cons_zero, List.getElem_cons_succ]
         go_simp <;> rfl)
      try simp only [Act.put, List.setIfInBounds_toArray, List.set_cons_zero, List.set_cons_succ, List.getElem_toArray, List.getElem_cons_zero, List.getElem_cons_succ]
      obtain ⟨⟨_, _, _, _⟩, e0, e1, e2, e3⟩ := HG10.out.four
      obtain ⟨⟨c0, c1, c2, c3⟩, _⟩ := HG10.out.four
      refine wpAnyH_ready (rs := [6]) (by kernel_rfl) (by simp) ?_
      refine AllReadyH.cons rfl (fun K hK => ?_) AllReadyH.nil
      try simp only [List.getElem_toArray, List.getElem_cons_zero, List.getElem_cons_succ]
      try go_simp
      rw [put4]
      obtain ⟨V1, hV1⟩ : ∃ V9, V9 = putFrom V0 w.heap.size 0 [.string vs, .int .i64 vd, .int .i64 vj, .slice vPA vn vpc] := ⟨_, rfl⟩
      have HL1 := hide (show Blk V1 xg 118 #[.int .i64 lwho, .int .i64 (q : Int), .int .i64 lstart, .slice LA i0 lc, .slice LB s0 ld, .string lread, .string ltaken, .bool leof, .int .i64 lstatus] by rw [hV1]; exact HL0.out.only (only_put _ 0 V0 _) (fun h => hne1 h))
      have HO1 := hide (show Only NoBlk w V1 by rw [hV1]; exact HO0.out.fresh (only_put _ 0 V0 _) (fun i _ h => Or.inr (by have : i = w.heap.size := h; omega)))
      have HG11 := hide (show Blk V1 w.heap.size 24 #[.string vs, .int .i64 vd, .int .i64 vj, .slice vPA vn vpc] by rw [hV1]; exact HG10.out.put [.string vs, .int .i64 vd, .int .i64 vj, .slice vPA vn vpc] rfl)
      have HG21 := hide (show Blk V1 (w.heap.size + 1) 118 #[.int .i64 0, .int .i64 0, .int .i64 0, .slice none 0 0, .slice none 0 0, .string ⟨#[]⟩, .string ⟨#[]⟩, .bool false, .int .i64 0] by rw [hV1]; exact HG20.out.only (only_put _ 0 V0 _) (fun h => by have : w.heap.size + 1 = w.heap.size := h; omega))
      rw [← hV1]
      clear hV1 c0 c1 c2 c3 e0 e1 e2 e3
      refine hK.out _ _ (by obtain ⟨⟨q0, q1, q2, q3, q4, q5, q6, q7, q8⟩, _⟩ := (HL1.out).nine; obtain ⟨r0, r1, r2, r3⟩ := HPc.out _ (HO1.out); exact ⟨q0, q1, q2, q3, q4, q5, q6, q7, q8, r0, r1, r2, r3⟩) (fun hHeld => ?_)
      clear hK K
      try simp only [Act.put, List.setIfInBounds_toArray, List.set_cons_zero, List.set_cons_succ, List.getElem_toArray, List.getElem_cons_zero, List.getElem_cons_succ]
      obtain ⟨⟨c0, c1, c2, c3, c4, c5, c6, c7, c8⟩, e0, e1, e2, e3, e4, e5, e6, e7, e8⟩ := HG21.out.nine
      refine wpAnyH_ready (rs := [7]) (by kernel_rfl) (by simp) ?_
      refine AllReadyH.cons rfl (fun K hK => ?_) AllReadyH.nil
      try simp only [List.getElem_toArray, List.getElem_cons_zero, List.getElem_cons_succ]
      try go_simp
      rw [put9f]
      obtain ⟨V2, hV2⟩ : ∃ V9, V9 = putFrom V1 (w.heap.size + 1) 0 [.int .i64 lwho, .int .i64 (q : Int), .int .i64 lstart, .slice LA i0 lc, .slice LB s0 ld, .string lread, .string ltaken, .bool leof, .int .i64 lstatus] := ⟨_, rfl⟩
      have HL2 := hide (show Blk V2 xg 118 #[.int .i64 lwho, .int .i64 (q : Int), .int .i64 lstart, .slice LA i0 lc, .slice LB s0 ld, .string lread, .string ltaken, .bool leof, .int .i64 lstatus] by rw [hV2]; exact HL1.out.only (only_put _ 0 V1 _) (fun h => hne2 h))
      have HO2 := hide (show Only NoBlk w V2 by rw [hV2]; exact HO1.out.fresh (only_put _ 0 V1 _) (fun i _ h => Or.inr (by have : i = w.heap.size + 1 := h; omega)))
      have HG12 := hide (show Blk V2 w.heap.size 24 #[.string vs, .int .i64 vd, .int .i64 vj, .slice vPA vn vpc] by rw [hV2]; exact HG11.out.only (only_put _ 0 V1 _) (fun h => by have : w.heap.size = w.heap.size + 1 := h; omega))
      have HG22 := hide (show Blk V2 (w.heap.size + 1) 118 #[.int .i64 lwho, .int .i64 (q : Int), .int .i64 lstart, .slice LA i0 lc, .slice LB s0 ld, .string lread, .string ltaken, .bool leof, .int .i64 lstatus] by rw [hV2]; exact HG21.out.put [.int .i64 lwho, .int .i64 (q : Int), .int .i64 lstart, .slice LA i0 lc, .slice LB s0 ld, .string lread, .string ltaken, .bool leof, .int .i64 lstatus] rfl)
      rw [← hV2]
      clear hV2 c0 c1 c2 c3 c4 c5 c6 c7 c8 e0 e1 e2 e3 e4 e5 e6 e7 e8
      refine hK.out _ _ (by obtain ⟨⟨q0, q1, q2, q3, q4, q5, q6, q7, q8⟩, _⟩ := (HL2.out).nine; obtain ⟨r0, r1, r2, r3⟩ := HPc.out _ (HO2.out); exact ⟨q0, q1, q2, q3, q4, q5, q6, q7, q8, r0, r1, r2, r3⟩) (fun hHeld => ?_)
      clear hK K
      refine wpAnyH_take (i := 8) (v := ?_) rfl (by kernel_rfl) (by kernel_rfl) (by kernel_rfl) (fun _ _ _ h => h) (Or.inl ⟨by rfl, ?_⟩) (by assumption) ?_
      rotate_left
      · (intro w9 hS9; try simp only [List.getElem_toArray, List.getElem_cons_zero, List.getElem_cons_succ]
         go_simp <;> rfl)
      try simp only [Act.put, List.setIfInBounds_toArray, List.set_cons_zero, List.set_cons_succ, List.getElem_toArray, List.getElem_cons_zero, List.getElem_cons_succ]
      refine wpAnyH_done (by kernel_rfl) ?_ _
      try simp only [Exit.then]
      clear hHeld
      go_wp2_with fail
      obtain ⟨⟨c0, c1, c2, c3⟩, _⟩ := HG12.out.four
      obtain ⟨⟨d0, d1, d2, d3, d4, d5, d6, d7, d8⟩, _⟩ := HG22.out.nine
      refine bodyPost_ret (v := .tuple #[.agg #[.string vs, .int .i64 vd, .int .i64 vj, .slice vPA vn vpc], .agg #[.int .i64 lwho, .int .i64 (q : Int), .int .i64 lstart, .slice LA i0 lc, .slice LB s0 ld, .string lread, .string ltaken, .bool leof, .int .i64 lstatus], .bool true]) (by simp [results, Tryz.results71, go_sem, c0, c1, c2, c3, d0, d1, d2, d3, d4, d5, d6, d7, d8]) rfl ?_
      exact ⟨⟨lwho, q, lstart, LA, i0, lc, LB, s0, ld, lread, leof, lstatus, by rw [HSN.out, ← HV.out, HVn.out, HLtk.out]; rfl⟩, HO2.out⟩
end Go.Proofs.YtdmdohjdmnmabaaGreat
