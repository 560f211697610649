/- A number put where it belongs, by the document. Conditions: those of each theorem. -/
import Derived.Test.YtdmdohjdmnmabaaGreatDoorQh37
import Derived.Deep.RegionHeld3
namespace Go.Proofs.YtdmdohjdmnmabaaGreatDoor
open Go.RowKit Go.Sort
set_option linter.unusedVariables false
set_option linter.unusedSimpArgs false

theorem beside' {w w' : World} {g : Nat} {t : TypeId} {cs : Array Value} {v : Value} (h : Blk w g t cs) (hn : ∀ k, v.ownBlock = some k → k ≠ g) (hg : w.grownBy w' v.ownBlock) : Blk w' g t cs :=
 (hg.block g h.lt (fun e => hn g e.symm rfl)).trans h
theorem own_bel' {w w' : World} {base size n : Nat} {e : TypeId} {v : Value} {l : List Value} (h : w.ownsRow base e size v n l) (k : Below w.heap.size w w') : w'.ownsRow base e size v n l := own_only h (Only.of_below k NoBlk) (fun _ _ h => h.elim)
theorem insG_len (l : List Int) (x : Int) : (insG l x).length ≤ l.length + 1 := by
 unfold insG
 split
 ·omega
 ·exact insU_len x l
set_option maxRecDepth 100000 in
set_option maxHeartbeats 25600000 in
theorem refAdd_c (g c : Nat) (l : List Int) (n : Int) (w : World) (hr : Rd w NoBlk (some ⟨g, 0, none⟩) (flat encI l)) (hn : l.length ≤ 100000) (hlc : l.length ≤ c) :
 Calls Tryz.prog 68 #[.slice (some ⟨g, 0, none⟩) l.length c, .int .i64 n] w fun e w' => (∃ g1 c1, e = .returned (.slice (some ⟨g1, 0, none⟩) (insG l n).length c1) ∧ (insG l n).length ≤ c1 ∧ Rd w' NoBlk (some ⟨g1, 0, none⟩) (flat encI (insG l n))) ∧ Below w.heap.size w w' := by
 obtain ⟨i0, hi, hz0, hz1, hz2⟩ := info_parts Tryz.infoI3
 have Hc := hide (show ∀ j, j < l.length → w.cell? ⟨g, j, none⟩ = some (.int .i64 (nth l j)) from fun j hj => by
  obtain ⟨b, o, hA, hc⟩ := int_cells hr j hj
  injection hA with hA
  injection hA with e1 e2 _
  subst e1; subst e2
  rw [Nat.zero_add] at hc
  exact hc)
 have HR := hide hr
 have HU := hide (fun j hj h1 h2 => insU_at n l j hj h1 h2)
 have HNeg := hide (show n < 0 → insG l n = l from fun h => by unfold insG; rw [if_pos h])
 have HPos := hide (show ¬ n < 0 → insG l n = insU n l from fun h => by unfold insG; rw [if_neg h])
 have HT := hide (show ∀ j, j ≤ l.length → (flat encI (l.take j)).length = j * 1 ∧ Rd w NoBlk (some ⟨g, 0, none⟩) (flat encI (l.take j)) from fun j hj => ⟨by rw [encI_len, List.length_take]; omega, by rw [← encI_take]; exact hr.take_ j⟩)
 have HD := hide (show ∀ j, j ≤ l.length → (flat encI (l.drop j)).length = (l.length - j) * 1 ∧ Rd w NoBlk (some ⟨g, j, none⟩) (flat encI (l.drop j)) from fun j hj => ⟨by rw [encI_len, List.length_drop]; omega, by rw [← encI_drop]; exact rd_drop hr j⟩)
 have HDe := hide (show flat encI (l.drop l.length) = [] by rw [List.drop_length]; rfl)
 obtain ⟨R, hR⟩ : ∃ R, R = insG l n := ⟨_, rfl⟩
 obtain ⟨m, hm⟩ : ∃ m, m = l.length := ⟨_, rfl⟩
 rw [← hR] at HNeg HPos ⊢
 rw [← hm] at hn hlc Hc HU HT HD HDe ⊢
 have Hm := hide hm
 clear hr hR hm
 go_enter Tryz.func68, Tryz.ntmps68
 go_wp2_with fail
 go_loopw [5] (fun i wr => ∃ j : Nat, j ≤ m ∧ i = .int .i64 j ∧ Hid (∀ i, i < j → nth l i < n) ∧ Hid (wr = w)) (fun i _ => m - (intOf i).toNat)
 case atStart => exact ⟨0, Nat.zero_le _, rfl, hide (fun i hi => absurd hi (by omega)), hide rfl⟩
 case round =>
  obtain ⟨j, hj, rfl, hlow, hw⟩ := hrel
  rw [hw.out]
  clear hw
  have w0 : IntKind.i64.wrap ((j : Int) + 1) = (j : Int) + 1 := IntWalk.i64_in _ (by omega)
  have j1 : (0 : Int) ≤ (j : Int) := by omega
  by_cases hjm : j < m
  case pos =>
   have j2 : (j : Int) < (m : Int) := by omega
   have d1 : decide ((j : Int) < (m : Int)) = true := by simp; exact hjm
   have d2 : decide (j < m) = true := by simp; exact hjm
   have g0 := Hc.out j hjm
   by_cases hx : nth l j < n
   case pos =>
    have d3 : decide (nth l j < n) = true := by simp; exact hx
    have HL := hide (show ∀ i, i < j + 1 → nth l i < n from fun i hi => by
     by_cases e : i = j
     ·subst e; exact hx
     ·exact hlow.out i (by omega))
    clear hx
    go_wp2_with fail
    go_roundw
    case rel => exact ⟨j + 1, by omega, by go_num, HL, hide (by first | rfl | trivial)⟩
    case measure => simp [intOf]; omega
   case neg =>
    have d3 : decide (nth l j < n) = false := by simp; omega
    have HI := hide (HU.out j hj hlow.out (fun _ => by omega))
    by_cases hn0 : n < 0
    case pos =>
     have d4 : decide (n < 0) = true := by simp; exact hn0
     have HE := hide (HNeg.out hn0)
     clear hn0 hx
     go_wp2_with fail
     go_ret
     exact ⟨⟨g, c, by rw [HE.out, ← Hm.out]; rfl, by rw [HE.out, ← Hm.out]; exact hlc, by rw [HE.out]; exact HR.out⟩, Below.refl _ _⟩
    case neg =>
     have d4 : decide (n < 0) = false := by simp; omega
     have HE0 := hide (HPos.out (by omega))
     by_cases he : nth l j = n
     case pos =>
      have d5 : (nth l j == n) = true := by simp; exact he
      have HE := hide (show R = l by rw [HE0.out, HI.out, if_neg (by intro h; rcases h with h | h; exact absurd h (by omega); exact h he)])
      clear hn0 hx he
      go_wp2_with fail
      go_ret
      exact ⟨⟨g, c, by rw [HE.out, ← Hm.out]; rfl, by rw [HE.out, ← Hm.out]; exact hlc, by rw [HE.out]; exact HR.out⟩, Below.refl _ _⟩
     case neg =>
      have d5 : (nth l j == n) = false := by simp; exact he
      have HE := hide (show R = l.take j ++ n :: l.drop j by rw [HE0.out, HI.out, if_pos (Or.inr he)])
      clear hn0 hx he
      have HBf := fun {V : World} (h : Below w.heap.size w V) => h
      have HDr := hide (HD.out j hj).2
      have HDl := hide (HD.out j hj).1
      have hc0 : ¬ c = 0 := by omega
      have hc0p : 0 < c := by omega
      have hjc : j < c := by omega
      have hcj2 : ¬ j = c := by omega
      have hcj3 : ¬ c = j := by omega
      have hjc3 : j ≤ c := by omega
      have hjc4 : (j : Int) ≤ (c : Int) := by omega
      have hjc5 : (0 : Int) ≤ (j : Int) := by omega
      have hjc6 : (j : Int) ≤ (m : Int) := by omega
      go_upto_region 6 with fail
      obtain ⟨V0, hV0⟩ : ∃ V9, V9 = w.drew := ⟨_, rfl⟩
      have HB0 := hide (show Below w.heap.size w V0 by rw [hV0]; exact (Below.refl _ _).drew)
      refine wp_region_held (S := fun _ => True) (by kernel_rfl) ?_
      change wpAnyH _ _ _ _ _ _ _ _ w.drew
      have hHeld : (fun _ => True) w.drew := trivial
      rw [← hV0] at hHeld ⊢
      simp only [List.size_toArray, List.length_cons, List.length_nil, Nat.zero_add, Nat.reduceAdd]
      clear hV0
      refine wpAnyH_take (i := 1) (v := ?_) rfl (by kernel_rfl) (by kernel_rfl) (by kernel_rfl) (fun _ _ _ h => h) (Or.inl ⟨by rfl, ?_⟩) (by assumption) ?_
      rotate_left
      ·(intro w9 hS9; (try simp only [List.getElem_toArray, List.getElem_cons_zero, List.getElem_cons_succ]); go_simp <;> rfl)
      try simp only [Act.put, List.setIfInBounds_toArray, List.set_cons_zero, List.set_cons_succ, List.getElem_toArray, List.getElem_cons_zero, List.getElem_cons_succ]
      refine wpAnyH_take (i := 2) (v := ?_) rfl (by kernel_rfl) (by kernel_rfl) (by kernel_rfl) (fun _ _ _ h => h) (Or.inl ⟨by rfl, ?_⟩) (by assumption) ?_
      rotate_left
      ·(intro w9 hS9; (try simp only [List.getElem_toArray, List.getElem_cons_zero, List.getElem_cons_succ]); go_simp <;> rfl)
      try simp only [Act.put, List.setIfInBounds_toArray, List.set_cons_zero, List.set_cons_succ, List.getElem_toArray, List.getElem_cons_zero, List.getElem_cons_succ]
      refine wpAnyH_take (i := 3) (v := ?_) rfl (by kernel_rfl) (by kernel_rfl) (by kernel_rfl) (fun _ _ _ h => h) (Or.inl ⟨by rfl, ?_⟩) (by assumption) ?_
      rotate_left
      ·(intro w9 hS9; (try simp only [List.getElem_toArray, List.getElem_cons_zero, List.getElem_cons_succ]); go_simp <;> rfl)
      try simp only [Act.put, List.setIfInBounds_toArray, List.set_cons_zero, List.set_cons_succ, List.getElem_toArray, List.getElem_cons_zero, List.getElem_cons_succ]
      refine wpAnyH_take (i := 5) (v := ?_) rfl (by kernel_rfl) (by kernel_rfl) (by kernel_rfl) (fun _ _ _ h => h) (Or.inl ⟨by rfl, ?_⟩) (by assumption) ?_
      rotate_left
      ·(intro w9 hS9; (try simp only [List.getElem_toArray, List.getElem_cons_zero, List.getElem_cons_succ]); go_simp <;> rfl)
      try simp only [Act.put, List.setIfInBounds_toArray, List.set_cons_zero, List.set_cons_succ, List.getElem_toArray, List.getElem_cons_zero, List.getElem_cons_succ]
      refine wpAnyH_take (i := 8) (v := ?_) rfl (by kernel_rfl) (by kernel_rfl) (by kernel_rfl) (fun _ _ _ h => h) (Or.inl ⟨by rfl, ?_⟩) (by assumption) ?_
      rotate_left
      ·(intro w9 hS9; (try simp only [List.getElem_toArray, List.getElem_cons_zero, List.getElem_cons_succ]); go_simp <;> rfl)
      try simp only [Act.put, List.setIfInBounds_toArray, List.set_cons_zero, List.set_cons_succ, List.getElem_toArray, List.getElem_cons_zero, List.getElem_cons_succ]
      refine wpAnyH_take (i := 9) (v := ?_) rfl (by kernel_rfl) (by kernel_rfl) (by kernel_rfl) (fun _ _ _ h => h) (Or.inl ⟨by rfl, ?_⟩) (by assumption) ?_
      rotate_left
      ·(intro w9 hS9; (try simp only [List.getElem_toArray, List.getElem_cons_zero, List.getElem_cons_succ]); go_simp <;> rfl)
      try simp only [Act.put, List.setIfInBounds_toArray, List.set_cons_zero, List.set_cons_succ, List.getElem_toArray, List.getElem_cons_zero, List.getElem_cons_succ]
      refine wpAnyH_take (i := 10) (v := ?_) rfl (by kernel_rfl) (by kernel_rfl) (by kernel_rfl) (fun _ _ _ h => h) (Or.inl ⟨by rfl, ?_⟩) (by assumption) ?_
      rotate_left
      ·(intro w9 hS9; (try simp only [List.getElem_toArray, List.getElem_cons_zero, List.getElem_cons_succ]); go_simp <;> rfl)
      try simp only [Act.put, List.setIfInBounds_toArray, List.set_cons_zero, List.set_cons_succ, List.getElem_toArray, List.getElem_cons_zero, List.getElem_cons_succ]
      refine wpAnyH_ready (rs := [0, 6]) (by kernel_rfl) (by simp) ?_
      refine AllReadyH.cons rfl (fun K hK => ?_) (AllReadyH.cons rfl (fun K hK => ?_) AllReadyH.nil)
      ·try simp only [List.getElem_toArray, List.getElem_cons_zero, List.getElem_cons_succ]
       try go_simp
       obtain ⟨V1, hV9⟩ : ∃ V9, V9 = V0.alloc (.cells #[] 3) := ⟨_, rfl⟩
       obtain ⟨g1, hg9⟩ : ∃ g9, g9 = V0.heap.size := ⟨_, rfl⟩
       have HB1 := hide (show Below w.heap.size w V1 by rw [hV9]; exact HB0.out.alloc HB0.out.size _)
       have HOw1 := hide (show V1.ownsRow w.heap.size 3 1 (.slice (some ⟨g1, 0, none⟩) 0 0) 0 [] by rw [hV9, hg9]; exact own_empty HB0.out.size)
       have HRlHOw1 := hide (show g1 < V1.heap.size by rw [hV9, hg9]; simp)
       rw [← hV9, ← hg9]
       clear hV9 hg9
       refine hK.out _ _ trivial (fun hHeld => ?_)
       clear hK K
       try simp only [Act.put, List.setIfInBounds_toArray, List.set_cons_zero, List.set_cons_succ, List.getElem_toArray, List.getElem_cons_zero, List.getElem_cons_succ]
       refine wpAnyH_ready (rs := [4, 6]) (by kernel_rfl) (by simp) ?_
       refine AllReadyH.cons rfl (fun K hK => ?_) (AllReadyH.cons rfl (fun K hK => ?_) AllReadyH.nil)
       ·refine step_append_rd V1 (by rfl) (.tmp 37) (.tmp 40) _ (by rfl) w.heap.size 3 i0 (.int .i64 0) 1 8 Tryz.underlying58 hi hz0 hz1 hz2 rfl (by omega) (.slice (some ⟨g1, 0, none⟩) 0 0) (0) ([]) (by rfl) HOw1.out NoBlk (some ⟨g, 0, none⟩) (j) (c) (flat encI (l.take j)) (by rfl) ((HT.out j hj).2.below (HBf HB1.out)) (HT.out j hj).1 (encI_one (l.take j)) (by simp only [maxLen]; omega) (by omega) HB1.out.size ?_
        intro v2 V2 hown hgr how
        have HB2 := hide (HB1.out.grown hgr HB1.out.size (fun k hk => own_ge HOw1.out k hk))
        simp only [Nat.zero_add, List.nil_append] at hown
        have HOw2 := hide hown
        clear hown hgr how
        refine hK.out _ _ trivial (fun hHeld => ?_)
        clear hK K
        try simp only [Act.put, List.setIfInBounds_toArray, List.set_cons_zero, List.set_cons_succ, List.getElem_toArray, List.getElem_cons_zero, List.getElem_cons_succ]
        refine wpAnyH_ready (rs := [6]) (by kernel_rfl) (by simp) ?_
        refine AllReadyH.cons rfl (fun K hK => ?_) AllReadyH.nil
        try simp only [List.getElem_toArray, List.getElem_cons_zero, List.getElem_cons_succ]
        try go_simp
        obtain ⟨V3, hV9⟩ : ∃ V9, V9 = V2.alloc (.cells #[.int .i64 n] 3) := ⟨_, rfl⟩
        obtain ⟨g3, hg9⟩ : ∃ g9, g9 = V2.heap.size := ⟨_, rfl⟩
        have HB3 := hide (show Below w.heap.size w V3 by rw [hV9]; exact HB2.out.alloc HB2.out.size _)
        have HX3 := hide (show Blk V3 g3 3 #[.int .i64 n] by rw [hV9, hg9]; exact Blk.new _ _ _)
        have HOw3 := hide (show V3.ownsRow w.heap.size 3 1 v2 (j) ((flat encI (l.take j))) by rw [hV9]; exact HOw2.out.alloc _)
        rw [← hV9, ← hg9]
        clear hV9 hg9
        refine hK.out _ _ trivial (fun hHeld => ?_)
        clear hK K
        try simp only [Act.put, List.setIfInBounds_toArray, List.set_cons_zero, List.set_cons_succ, List.getElem_toArray, List.getElem_cons_zero, List.getElem_cons_succ]
        refine wpAnyH_ready (rs := [7]) (by kernel_rfl) (by simp) ?_
        refine AllReadyH.cons rfl (fun K hK => ?_) AllReadyH.nil
        refine step_append_rd V3 (by rfl) (.tmp 41) (.tmp 43) _ (by rfl) w.heap.size 3 i0 (.int .i64 0) 1 8 Tryz.underlying58 hi hz0 hz1 hz2 rfl (by omega) v2 (j) ((flat encI (l.take j))) (by rfl) HOw3.out NoBlk (some ⟨g3, 0, none⟩) (1) (1) (flat encI [n]) (by rfl) (rd_blkN HX3.out (fun h => h)) rfl (encI_one [n]) (by simp only [maxLen]; omega) (by omega) HB3.out.size ?_
        intro v4 V4 hown hgr how
        have HB4 := hide (HB3.out.grown hgr HB3.out.size (fun k hk => own_ge HOw3.out k hk))
        have HOw4 := hide hown
        clear hown hgr how
        refine hK.out _ _ trivial (fun hHeld => ?_)
        clear hK K
        try simp only [Act.put, List.setIfInBounds_toArray, List.set_cons_zero, List.set_cons_succ, List.getElem_toArray, List.getElem_cons_zero, List.getElem_cons_succ]
        refine wpAnyH_ready (rs := [11]) (by kernel_rfl) (by simp) ?_
        refine AllReadyH.cons rfl (fun K hK => ?_) AllReadyH.nil
        refine step_append_rd V4 (by rfl) (.tmp 44) (.tmp 47) _ (by rfl) w.heap.size 3 i0 (.int .i64 0) 1 8 Tryz.underlying58 hi hz0 hz1 hz2 rfl (by omega) v4 (j + 1) ((flat encI (l.take j) ++ flat encI [n])) (by rfl) HOw4.out NoBlk (some ⟨g, j, none⟩) ((m - j)) ((c - j)) (flat encI (l.drop j)) (by rfl) (HDr.out.below (HBf HB4.out)) HDl.out (encI_one (l.drop j)) (by simp only [maxLen]; omega) (by omega) HB4.out.size ?_
        intro v5 V5 hown hgr how
        have HB5 := hide (HB4.out.grown hgr HB4.out.size (fun k hk => own_ge HOw4.out k hk))
        have HOw5 := hide hown
        clear hown hgr how
        refine hK.out _ _ trivial (fun hHeld => ?_)
        clear hK K
        try simp only [Act.put, List.setIfInBounds_toArray, List.set_cons_zero, List.set_cons_succ, List.getElem_toArray, List.getElem_cons_zero, List.getElem_cons_succ]
        refine wpAnyH_take (i := 12) (v := ?_) rfl (by kernel_rfl) (by kernel_rfl) (by kernel_rfl) (fun _ _ _ h => h) (Or.inl ⟨by rfl, ?_⟩) (by assumption) ?_
        rotate_left
        ·(intro w9 hS9; (try simp only [List.getElem_toArray, List.getElem_cons_zero, List.getElem_cons_succ]); go_simp <;> rfl)
        try simp only [Act.put, List.setIfInBounds_toArray, List.set_cons_zero, List.set_cons_succ, List.getElem_toArray, List.getElem_cons_zero, List.getElem_cons_succ]
        refine wpAnyH_done (by kernel_rfl) ?_ _
        try simp only [Exit.then]
        clear hHeld
        go_wp2_with fail
        go_ret
        obtain ⟨g9, c9, rfl, hc9⟩ := own_some HOw5.out (by omega)
        have hle : R.length = j + 1 + (m - j) := by rw [HE.out, List.length_append, List.length_cons, List.length_take, List.length_drop, ← Hm.out]; omega
        have hfl : flat encI R = flat encI (l.take j) ++ flat encI [n] ++ flat encI (l.drop j) := by rw [HE.out, flat_append, List.append_assoc]; rfl
        exact ⟨⟨g9, c9, by rw [hle]; rfl, by omega, by rw [hfl]; exact Rd.of_own (M := NoBlk) HOw5.out (fun _ h => h.elim)⟩, HB5.out⟩
       ·try simp only [List.getElem_toArray, List.getElem_cons_zero, List.getElem_cons_succ]
        try go_simp
        obtain ⟨V6, hV9⟩ : ∃ V9, V9 = V1.alloc (.cells #[.int .i64 n] 3) := ⟨_, rfl⟩
        obtain ⟨g6, hg9⟩ : ∃ g9, g9 = V1.heap.size := ⟨_, rfl⟩
        have HB6 := hide (show Below w.heap.size w V6 by rw [hV9]; exact HB1.out.alloc HB1.out.size _)
        have HX6 := hide (show Blk V6 g6 3 #[.int .i64 n] by rw [hV9, hg9]; exact Blk.new _ _ _)
        have HOw6 := hide (show V6.ownsRow w.heap.size 3 1 (.slice (some ⟨g1, 0, none⟩) 0 0) (0) ([]) by rw [hV9]; exact HOw1.out.alloc _)
        have HNe6 := hide (show g1 ≠ g6 by rw [hg9]; have := HRlHOw1.out; omega)
        rw [← hV9, ← hg9]
        clear hV9 hg9
        refine hK.out _ _ trivial (fun hHeld => ?_)
        clear hK K
        try simp only [Act.put, List.setIfInBounds_toArray, List.set_cons_zero, List.set_cons_succ, List.getElem_toArray, List.getElem_cons_zero, List.getElem_cons_succ]
        refine wpAnyH_ready (rs := [4]) (by kernel_rfl) (by simp) ?_
        refine AllReadyH.cons rfl (fun K hK => ?_) AllReadyH.nil
        refine step_append_rd V6 (by rfl) (.tmp 37) (.tmp 40) _ (by rfl) w.heap.size 3 i0 (.int .i64 0) 1 8 Tryz.underlying58 hi hz0 hz1 hz2 rfl (by omega) (.slice (some ⟨g1, 0, none⟩) 0 0) (0) ([]) (by rfl) HOw6.out NoBlk (some ⟨g, 0, none⟩) (j) (c) (flat encI (l.take j)) (by rfl) ((HT.out j hj).2.below (HBf HB6.out)) (HT.out j hj).1 (encI_one (l.take j)) (by simp only [maxLen]; omega) (by omega) HB6.out.size ?_
        intro v7 V7 hown hgr how
        have HB7 := hide (HB6.out.grown hgr HB6.out.size (fun k hk => own_ge HOw6.out k hk))
        simp only [Nat.zero_add, List.nil_append] at hown
        have HOw7 := hide hown
        have HX7 := hide (beside' HX6.out (fun k hk => by simp [Value.ownBlock] at hk; have := HNe6.out; omega) hgr)
        clear hown hgr how
        refine hK.out _ _ trivial (fun hHeld => ?_)
        clear hK K
        try simp only [Act.put, List.setIfInBounds_toArray, List.set_cons_zero, List.set_cons_succ, List.getElem_toArray, List.getElem_cons_zero, List.getElem_cons_succ]
        refine wpAnyH_ready (rs := [7]) (by kernel_rfl) (by simp) ?_
        refine AllReadyH.cons rfl (fun K hK => ?_) AllReadyH.nil
        refine step_append_rd V7 (by rfl) (.tmp 41) (.tmp 43) _ (by rfl) w.heap.size 3 i0 (.int .i64 0) 1 8 Tryz.underlying58 hi hz0 hz1 hz2 rfl (by omega) v7 (j) ((flat encI (l.take j))) (by rfl) HOw7.out NoBlk (some ⟨g6, 0, none⟩) (1) (1) (flat encI [n]) (by rfl) (rd_blkN HX7.out (fun h => h)) rfl (encI_one [n]) (by simp only [maxLen]; omega) (by omega) HB7.out.size ?_
        intro v8 V8 hown hgr how
        have HB8 := hide (HB7.out.grown hgr HB7.out.size (fun k hk => own_ge HOw7.out k hk))
        have HOw8 := hide hown
        clear hown hgr how
        refine hK.out _ _ trivial (fun hHeld => ?_)
        clear hK K
        try simp only [Act.put, List.setIfInBounds_toArray, List.set_cons_zero, List.set_cons_succ, List.getElem_toArray, List.getElem_cons_zero, List.getElem_cons_succ]
        refine wpAnyH_ready (rs := [11]) (by kernel_rfl) (by simp) ?_
        refine AllReadyH.cons rfl (fun K hK => ?_) AllReadyH.nil
        refine step_append_rd V8 (by rfl) (.tmp 44) (.tmp 47) _ (by rfl) w.heap.size 3 i0 (.int .i64 0) 1 8 Tryz.underlying58 hi hz0 hz1 hz2 rfl (by omega) v8 (j + 1) ((flat encI (l.take j) ++ flat encI [n])) (by rfl) HOw8.out NoBlk (some ⟨g, j, none⟩) ((m - j)) ((c - j)) (flat encI (l.drop j)) (by rfl) (HDr.out.below (HBf HB8.out)) HDl.out (encI_one (l.drop j)) (by simp only [maxLen]; omega) (by omega) HB8.out.size ?_
        intro v9 V9 hown hgr how
        have HB9 := hide (HB8.out.grown hgr HB8.out.size (fun k hk => own_ge HOw8.out k hk))
        have HOw9 := hide hown
        clear hown hgr how
        refine hK.out _ _ trivial (fun hHeld => ?_)
        clear hK K
        try simp only [Act.put, List.setIfInBounds_toArray, List.set_cons_zero, List.set_cons_succ, List.getElem_toArray, List.getElem_cons_zero, List.getElem_cons_succ]
        refine wpAnyH_take (i := 12) (v := ?_) rfl (by kernel_rfl) (by kernel_rfl) (by kernel_rfl) (fun _ _ _ h => h) (Or.inl ⟨by rfl, ?_⟩) (by assumption) ?_
        rotate_left
        ·(intro w9 hS9; (try simp only [List.getElem_toArray, List.getElem_cons_zero, List.getElem_cons_succ]); go_simp <;> rfl)
        try simp only [Act.put, List.setIfInBounds_toArray, List.set_cons_zero, List.set_cons_succ, List.getElem_toArray, List.getElem_cons_zero, List.getElem_cons_succ]
        refine wpAnyH_done (by kernel_rfl) ?_ _
        try simp only [Exit.then]
        clear hHeld
        go_wp2_with fail
        go_ret
        obtain ⟨g9, c9, rfl, hc9⟩ := own_some HOw9.out (by omega)
        have hle : R.length = j + 1 + (m - j) := by rw [HE.out, List.length_append, List.length_cons, List.length_take, List.length_drop, ← Hm.out]; omega
        have hfl : flat encI R = flat encI (l.take j) ++ flat encI [n] ++ flat encI (l.drop j) := by rw [HE.out, flat_append, List.append_assoc]; rfl
        exact ⟨⟨g9, c9, by rw [hle]; rfl, by omega, by rw [hfl]; exact Rd.of_own (M := NoBlk) HOw9.out (fun _ h => h.elim)⟩, HB9.out⟩
      ·try simp only [List.getElem_toArray, List.getElem_cons_zero, List.getElem_cons_succ]
       try go_simp
       obtain ⟨V10, hV9⟩ : ∃ V9, V9 = V0.alloc (.cells #[.int .i64 n] 3) := ⟨_, rfl⟩
       obtain ⟨g10, hg9⟩ : ∃ g9, g9 = V0.heap.size := ⟨_, rfl⟩
       have HB10 := hide (show Below w.heap.size w V10 by rw [hV9]; exact HB0.out.alloc HB0.out.size _)
       have HX10 := hide (show Blk V10 g10 3 #[.int .i64 n] by rw [hV9, hg9]; exact Blk.new _ _ _)
       rw [← hV9, ← hg9]
       clear hV9 hg9
       refine hK.out _ _ trivial (fun hHeld => ?_)
       clear hK K
       try simp only [Act.put, List.setIfInBounds_toArray, List.set_cons_zero, List.set_cons_succ, List.getElem_toArray, List.getElem_cons_zero, List.getElem_cons_succ]
       refine wpAnyH_ready (rs := [0]) (by kernel_rfl) (by simp) ?_
       refine AllReadyH.cons rfl (fun K hK => ?_) AllReadyH.nil
       try simp only [List.getElem_toArray, List.getElem_cons_zero, List.getElem_cons_succ]
       try go_simp
       obtain ⟨V11, hV9⟩ : ∃ V9, V9 = V10.alloc (.cells #[] 3) := ⟨_, rfl⟩
       obtain ⟨g11, hg9⟩ : ∃ g9, g9 = V10.heap.size := ⟨_, rfl⟩
       have HB11 := hide (show Below w.heap.size w V11 by rw [hV9]; exact HB10.out.alloc HB10.out.size _)
       have HOw11 := hide (show V11.ownsRow w.heap.size 3 1 (.slice (some ⟨g11, 0, none⟩) 0 0) 0 [] by rw [hV9, hg9]; exact own_empty HB10.out.size)
       have HX11 := hide (show Blk V11 g10 3 #[.int .i64 n] by rw [hV9]; exact HX10.out.alloc _)
       have HNe11 := hide (show g11 ≠ g10 by rw [hg9]; have := HX10.out.lt; omega)
       have HRlHOw11 := hide (show g11 < V11.heap.size by rw [hV9, hg9]; simp)
       rw [← hV9, ← hg9]
       clear hV9 hg9
       refine hK.out _ _ trivial (fun hHeld => ?_)
       clear hK K
       try simp only [Act.put, List.setIfInBounds_toArray, List.set_cons_zero, List.set_cons_succ, List.getElem_toArray, List.getElem_cons_zero, List.getElem_cons_succ]
       refine wpAnyH_ready (rs := [4]) (by kernel_rfl) (by simp) ?_
       refine AllReadyH.cons rfl (fun K hK => ?_) AllReadyH.nil
       refine step_append_rd V11 (by rfl) (.tmp 37) (.tmp 40) _ (by rfl) w.heap.size 3 i0 (.int .i64 0) 1 8 Tryz.underlying58 hi hz0 hz1 hz2 rfl (by omega) (.slice (some ⟨g11, 0, none⟩) 0 0) (0) ([]) (by rfl) HOw11.out NoBlk (some ⟨g, 0, none⟩) (j) (c) (flat encI (l.take j)) (by rfl) ((HT.out j hj).2.below (HBf HB11.out)) (HT.out j hj).1 (encI_one (l.take j)) (by simp only [maxLen]; omega) (by omega) HB11.out.size ?_
       intro v12 V12 hown hgr how
       have HB12 := hide (HB11.out.grown hgr HB11.out.size (fun k hk => own_ge HOw11.out k hk))
       simp only [Nat.zero_add, List.nil_append] at hown
       have HOw12 := hide hown
       have HX12 := hide (beside' HX11.out (fun k hk => by simp [Value.ownBlock] at hk; have := HNe11.out; omega) hgr)
       clear hown hgr how
       refine hK.out _ _ trivial (fun hHeld => ?_)
       clear hK K
       try simp only [Act.put, List.setIfInBounds_toArray, List.set_cons_zero, List.set_cons_succ, List.getElem_toArray, List.getElem_cons_zero, List.getElem_cons_succ]
       refine wpAnyH_ready (rs := [7]) (by kernel_rfl) (by simp) ?_
       refine AllReadyH.cons rfl (fun K hK => ?_) AllReadyH.nil
       refine step_append_rd V12 (by rfl) (.tmp 41) (.tmp 43) _ (by rfl) w.heap.size 3 i0 (.int .i64 0) 1 8 Tryz.underlying58 hi hz0 hz1 hz2 rfl (by omega) v12 (j) ((flat encI (l.take j))) (by rfl) HOw12.out NoBlk (some ⟨g10, 0, none⟩) (1) (1) (flat encI [n]) (by rfl) (rd_blkN HX12.out (fun h => h)) rfl (encI_one [n]) (by simp only [maxLen]; omega) (by omega) HB12.out.size ?_
       intro v13 V13 hown hgr how
       have HB13 := hide (HB12.out.grown hgr HB12.out.size (fun k hk => own_ge HOw12.out k hk))
       have HOw13 := hide hown
       clear hown hgr how
       refine hK.out _ _ trivial (fun hHeld => ?_)
       clear hK K
       try simp only [Act.put, List.setIfInBounds_toArray, List.set_cons_zero, List.set_cons_succ, List.getElem_toArray, List.getElem_cons_zero, List.getElem_cons_succ]
       refine wpAnyH_ready (rs := [11]) (by kernel_rfl) (by simp) ?_
       refine AllReadyH.cons rfl (fun K hK => ?_) AllReadyH.nil
       refine step_append_rd V13 (by rfl) (.tmp 44) (.tmp 47) _ (by rfl) w.heap.size 3 i0 (.int .i64 0) 1 8 Tryz.underlying58 hi hz0 hz1 hz2 rfl (by omega) v13 (j + 1) ((flat encI (l.take j) ++ flat encI [n])) (by rfl) HOw13.out NoBlk (some ⟨g, j, none⟩) ((m - j)) ((c - j)) (flat encI (l.drop j)) (by rfl) (HDr.out.below (HBf HB13.out)) HDl.out (encI_one (l.drop j)) (by simp only [maxLen]; omega) (by omega) HB13.out.size ?_
       intro v14 V14 hown hgr how
       have HB14 := hide (HB13.out.grown hgr HB13.out.size (fun k hk => own_ge HOw13.out k hk))
       have HOw14 := hide hown
       clear hown hgr how
       refine hK.out _ _ trivial (fun hHeld => ?_)
       clear hK K
       try simp only [Act.put, List.setIfInBounds_toArray, List.set_cons_zero, List.set_cons_succ, List.getElem_toArray, List.getElem_cons_zero, List.getElem_cons_succ]
       refine wpAnyH_take (i := 12) (v := ?_) rfl (by kernel_rfl) (by kernel_rfl) (by kernel_rfl) (fun _ _ _ h => h) (Or.inl ⟨by rfl, ?_⟩) (by assumption) ?_
       rotate_left
       ·(intro w9 hS9; (try simp only [List.getElem_toArray, List.getElem_cons_zero, List.getElem_cons_succ]); go_simp <;> rfl)
       try simp only [Act.put, List.setIfInBounds_toArray, List.set_cons_zero, List.set_cons_succ, List.getElem_toArray, List.getElem_cons_zero, List.getElem_cons_succ]
       refine wpAnyH_done (by kernel_rfl) ?_ _
       try simp only [Exit.then]
       clear hHeld
       go_wp2_with fail
       go_ret
       obtain ⟨g9, c9, rfl, hc9⟩ := own_some HOw14.out (by omega)
       have hle : R.length = j + 1 + (m - j) := by rw [HE.out, List.length_append, List.length_cons, List.length_take, List.length_drop, ← Hm.out]; omega
       have hfl : flat encI R = flat encI (l.take j) ++ flat encI [n] ++ flat encI (l.drop j) := by rw [HE.out, flat_append, List.append_assoc]; rfl
       exact ⟨⟨g9, c9, by rw [hle]; rfl, by omega, by rw [hfl]; exact Rd.of_own (M := NoBlk) HOw14.out (fun _ h => h.elim)⟩, HB14.out⟩
  case neg =>
   have hje : j = m := by omega
   have d1 : decide ((j : Int) < (m : Int)) = false := by simp; omega
   have d2 : decide (j < m) = false := by simp; omega
   have HI := hide (HU.out j hj hlow.out (fun h => absurd h hjm))
   by_cases hn0 : n < 0
   case pos =>
    have d4 : decide (n < 0) = true := by simp; exact hn0
    have HE := hide (HNeg.out hn0)
    clear hn0 hje
    go_wp2_with fail
    go_ret
    exact ⟨⟨g, c, by rw [HE.out, ← Hm.out]; rfl, by rw [HE.out, ← Hm.out]; exact hlc, by rw [HE.out]; exact HR.out⟩, Below.refl _ _⟩
   case neg =>
    have d4 : decide (n < 0) = false := by simp; omega
    have HE := hide (show R = l.take j ++ n :: l.drop j by rw [HPos.out (by omega), HI.out, if_pos (Or.inl hje)])
    clear hn0 hje
    have HBf := fun {V : World} (h : Below w.heap.size w V) => h
    by_cases hcj : c = j
    case pos =>
     subst hcj
     have hjm' : c = m := by omega
     have HDr := hide (show Rd w NoBlk (some ⟨g, 0, none⟩) (flat encI (l.drop c)) from Or.inl (by rw [hjm']; exact HDe.out))
     have HDl := hide (show (flat encI (l.drop c)).length = 0 * 1 by rw [hjm', HDe.out]; rfl)
     clear hjm'
     go_upto_region 6 with fail
     obtain ⟨V0, hV0⟩ : ∃ V9, V9 = w.drew := ⟨_, rfl⟩
     have HB0 := hide (show Below w.heap.size w V0 by rw [hV0]; exact (Below.refl _ _).drew)
     refine wp_region_held (S := fun _ => True) (by kernel_rfl) ?_
     change wpAnyH _ _ _ _ _ _ _ _ w.drew
     have hHeld : (fun _ => True) w.drew := trivial
     rw [← hV0] at hHeld ⊢
     simp only [List.size_toArray, List.length_cons, List.length_nil, Nat.zero_add, Nat.reduceAdd]
     clear hV0
     refine wpAnyH_take (i := 1) (v := ?_) rfl (by kernel_rfl) (by kernel_rfl) (by kernel_rfl) (fun _ _ _ h => h) (Or.inl ⟨by rfl, ?_⟩) (by assumption) ?_
     rotate_left
     ·(intro w9 hS9; (try simp only [List.getElem_toArray, List.getElem_cons_zero, List.getElem_cons_succ]); go_simp <;> rfl)
     try simp only [Act.put, List.setIfInBounds_toArray, List.set_cons_zero, List.set_cons_succ, List.getElem_toArray, List.getElem_cons_zero, List.getElem_cons_succ]
     refine wpAnyH_take (i := 2) (v := ?_) rfl (by kernel_rfl) (by kernel_rfl) (by kernel_rfl) (fun _ _ _ h => h) (Or.inl ⟨by rfl, ?_⟩) (by assumption) ?_
     rotate_left
     ·(intro w9 hS9; (try simp only [List.getElem_toArray, List.getElem_cons_zero, List.getElem_cons_succ]); go_simp <;> rfl)
     try simp only [Act.put, List.setIfInBounds_toArray, List.set_cons_zero, List.set_cons_succ, List.getElem_toArray, List.getElem_cons_zero, List.getElem_cons_succ]
     refine wpAnyH_take (i := 3) (v := ?_) rfl (by kernel_rfl) (by kernel_rfl) (by kernel_rfl) (fun _ _ _ h => h) (Or.inl ⟨by rfl, ?_⟩) (by assumption) ?_
     rotate_left
     ·(intro w9 hS9; (try simp only [List.getElem_toArray, List.getElem_cons_zero, List.getElem_cons_succ]); go_simp <;> rfl)
     try simp only [Act.put, List.setIfInBounds_toArray, List.set_cons_zero, List.set_cons_succ, List.getElem_toArray, List.getElem_cons_zero, List.getElem_cons_succ]
     refine wpAnyH_take (i := 5) (v := ?_) rfl (by kernel_rfl) (by kernel_rfl) (by kernel_rfl) (fun _ _ _ h => h) (Or.inl ⟨by rfl, ?_⟩) (by assumption) ?_
     rotate_left
     ·(intro w9 hS9; (try simp only [List.getElem_toArray, List.getElem_cons_zero, List.getElem_cons_succ]); go_simp <;> rfl)
     try simp only [Act.put, List.setIfInBounds_toArray, List.set_cons_zero, List.set_cons_succ, List.getElem_toArray, List.getElem_cons_zero, List.getElem_cons_succ]
     refine wpAnyH_take (i := 8) (v := ?_) rfl (by kernel_rfl) (by kernel_rfl) (by kernel_rfl) (fun _ _ _ h => h) (Or.inl ⟨by rfl, ?_⟩) (by assumption) ?_
     rotate_left
     ·(intro w9 hS9; (try simp only [List.getElem_toArray, List.getElem_cons_zero, List.getElem_cons_succ]); go_simp <;> rfl)
     try simp only [Act.put, List.setIfInBounds_toArray, List.set_cons_zero, List.set_cons_succ, List.getElem_toArray, List.getElem_cons_zero, List.getElem_cons_succ]
     refine wpAnyH_take (i := 9) (v := ?_) rfl (by kernel_rfl) (by kernel_rfl) (by kernel_rfl) (fun _ _ _ h => h) (Or.inl ⟨by rfl, ?_⟩) (by assumption) ?_
     rotate_left
     ·(intro w9 hS9; (try simp only [List.getElem_toArray, List.getElem_cons_zero, List.getElem_cons_succ]); go_simp <;> rfl)
     try simp only [Act.put, List.setIfInBounds_toArray, List.set_cons_zero, List.set_cons_succ, List.getElem_toArray, List.getElem_cons_zero, List.getElem_cons_succ]
     refine wpAnyH_take (i := 10) (v := ?_) rfl (by kernel_rfl) (by kernel_rfl) (by kernel_rfl) (fun _ _ _ h => h) (Or.inl ⟨by rfl, ?_⟩) (by assumption) ?_
     rotate_left
     ·(intro w9 hS9; (try simp only [List.getElem_toArray, List.getElem_cons_zero, List.getElem_cons_succ]); go_simp <;> rfl)
     try simp only [Act.put, List.setIfInBounds_toArray, List.set_cons_zero, List.set_cons_succ, List.getElem_toArray, List.getElem_cons_zero, List.getElem_cons_succ]
     refine wpAnyH_ready (rs := [0, 6]) (by kernel_rfl) (by simp) ?_
     refine AllReadyH.cons rfl (fun K hK => ?_) (AllReadyH.cons rfl (fun K hK => ?_) AllReadyH.nil)
     ·try simp only [List.getElem_toArray, List.getElem_cons_zero, List.getElem_cons_succ]
      try go_simp
      obtain ⟨V1, hV9⟩ : ∃ V9, V9 = V0.alloc (.cells #[] 3) := ⟨_, rfl⟩
      obtain ⟨g1, hg9⟩ : ∃ g9, g9 = V0.heap.size := ⟨_, rfl⟩
      have HB1 := hide (show Below w.heap.size w V1 by rw [hV9]; exact HB0.out.alloc HB0.out.size _)
      have HOw1 := hide (show V1.ownsRow w.heap.size 3 1 (.slice (some ⟨g1, 0, none⟩) 0 0) 0 [] by rw [hV9, hg9]; exact own_empty HB0.out.size)
      have HRlHOw1 := hide (show g1 < V1.heap.size by rw [hV9, hg9]; simp)
      rw [← hV9, ← hg9]
      clear hV9 hg9
      refine hK.out _ _ trivial (fun hHeld => ?_)
      clear hK K
      try simp only [Act.put, List.setIfInBounds_toArray, List.set_cons_zero, List.set_cons_succ, List.getElem_toArray, List.getElem_cons_zero, List.getElem_cons_succ]
      refine wpAnyH_ready (rs := [4, 6]) (by kernel_rfl) (by simp) ?_
      refine AllReadyH.cons rfl (fun K hK => ?_) (AllReadyH.cons rfl (fun K hK => ?_) AllReadyH.nil)
      ·refine step_append_rd V1 (by rfl) (.tmp 37) (.tmp 40) _ (by rfl) w.heap.size 3 i0 (.int .i64 0) 1 8 Tryz.underlying58 hi hz0 hz1 hz2 rfl (by omega) (.slice (some ⟨g1, 0, none⟩) 0 0) (0) ([]) (by rfl) HOw1.out NoBlk (some ⟨g, 0, none⟩) (c) (c) (flat encI (l.take c)) (by rfl) ((HT.out c hj).2.below (HBf HB1.out)) (HT.out c hj).1 (encI_one (l.take c)) (by simp only [maxLen]; omega) (by omega) HB1.out.size ?_
       intro v2 V2 hown hgr how
       have HB2 := hide (HB1.out.grown hgr HB1.out.size (fun k hk => own_ge HOw1.out k hk))
       simp only [Nat.zero_add, List.nil_append] at hown
       have HOw2 := hide hown
       clear hown hgr how
       refine hK.out _ _ trivial (fun hHeld => ?_)
       clear hK K
       try simp only [Act.put, List.setIfInBounds_toArray, List.set_cons_zero, List.set_cons_succ, List.getElem_toArray, List.getElem_cons_zero, List.getElem_cons_succ]
       refine wpAnyH_ready (rs := [6]) (by kernel_rfl) (by simp) ?_
       refine AllReadyH.cons rfl (fun K hK => ?_) AllReadyH.nil
       try simp only [List.getElem_toArray, List.getElem_cons_zero, List.getElem_cons_succ]
       try go_simp
       obtain ⟨V3, hV9⟩ : ∃ V9, V9 = V2.alloc (.cells #[.int .i64 n] 3) := ⟨_, rfl⟩
       obtain ⟨g3, hg9⟩ : ∃ g9, g9 = V2.heap.size := ⟨_, rfl⟩
       have HB3 := hide (show Below w.heap.size w V3 by rw [hV9]; exact HB2.out.alloc HB2.out.size _)
       have HX3 := hide (show Blk V3 g3 3 #[.int .i64 n] by rw [hV9, hg9]; exact Blk.new _ _ _)
       have HOw3 := hide (show V3.ownsRow w.heap.size 3 1 v2 (c) ((flat encI (l.take c))) by rw [hV9]; exact HOw2.out.alloc _)
       rw [← hV9, ← hg9]
       clear hV9 hg9
       refine hK.out _ _ trivial (fun hHeld => ?_)
       clear hK K
       try simp only [Act.put, List.setIfInBounds_toArray, List.set_cons_zero, List.set_cons_succ, List.getElem_toArray, List.getElem_cons_zero, List.getElem_cons_succ]
       refine wpAnyH_ready (rs := [7]) (by kernel_rfl) (by simp) ?_
       refine AllReadyH.cons rfl (fun K hK => ?_) AllReadyH.nil
       refine step_append_rd V3 (by rfl) (.tmp 41) (.tmp 43) _ (by rfl) w.heap.size 3 i0 (.int .i64 0) 1 8 Tryz.underlying58 hi hz0 hz1 hz2 rfl (by omega) v2 (c) ((flat encI (l.take c))) (by rfl) HOw3.out NoBlk (some ⟨g3, 0, none⟩) (1) (1) (flat encI [n]) (by rfl) (rd_blkN HX3.out (fun h => h)) rfl (encI_one [n]) (by simp only [maxLen]; omega) (by omega) HB3.out.size ?_
       intro v4 V4 hown hgr how
       have HB4 := hide (HB3.out.grown hgr HB3.out.size (fun k hk => own_ge HOw3.out k hk))
       have HOw4 := hide hown
       clear hown hgr how
       refine hK.out _ _ trivial (fun hHeld => ?_)
       clear hK K
       try simp only [Act.put, List.setIfInBounds_toArray, List.set_cons_zero, List.set_cons_succ, List.getElem_toArray, List.getElem_cons_zero, List.getElem_cons_succ]
       refine wpAnyH_ready (rs := [11]) (by kernel_rfl) (by simp) ?_
       refine AllReadyH.cons rfl (fun K hK => ?_) AllReadyH.nil
       refine step_append_rd V4 (by rfl) (.tmp 44) (.tmp 47) _ (by rfl) w.heap.size 3 i0 (.int .i64 0) 1 8 Tryz.underlying58 hi hz0 hz1 hz2 rfl (by omega) v4 (c + 1) ((flat encI (l.take c) ++ flat encI [n])) (by rfl) HOw4.out NoBlk (some ⟨g, 0, none⟩) (0) (0) (flat encI (l.drop c)) (by rfl) (HDr.out.below (HBf HB4.out)) HDl.out (encI_one (l.drop c)) (by simp only [maxLen]; omega) (by omega) HB4.out.size ?_
       intro v5 V5 hown hgr how
       have HB5 := hide (HB4.out.grown hgr HB4.out.size (fun k hk => own_ge HOw4.out k hk))
       have HOw5 := hide hown
       clear hown hgr how
       refine hK.out _ _ trivial (fun hHeld => ?_)
       clear hK K
       try simp only [Act.put, List.setIfInBounds_toArray, List.set_cons_zero, List.set_cons_succ, List.getElem_toArray, List.getElem_cons_zero, List.getElem_cons_succ]
       refine wpAnyH_take (i := 12) (v := ?_) rfl (by kernel_rfl) (by kernel_rfl) (by kernel_rfl) (fun _ _ _ h => h) (Or.inl ⟨by rfl, ?_⟩) (by assumption) ?_
       rotate_left
       ·(intro w9 hS9; (try simp only [List.getElem_toArray, List.getElem_cons_zero, List.getElem_cons_succ]); go_simp <;> rfl)
       try simp only [Act.put, List.setIfInBounds_toArray, List.set_cons_zero, List.set_cons_succ, List.getElem_toArray, List.getElem_cons_zero, List.getElem_cons_succ]
       refine wpAnyH_done (by kernel_rfl) ?_ _
       try simp only [Exit.then]
       clear hHeld
       go_wp2_with fail
       go_ret
       obtain ⟨g9, c9, rfl, hc9⟩ := own_some HOw5.out (by omega)
       have hle : R.length = c + 1 + 0 := by rw [HE.out, List.length_append, List.length_cons, List.length_take, List.length_drop, ← Hm.out]; omega
       have hfl : flat encI R = flat encI (l.take c) ++ flat encI [n] ++ flat encI (l.drop c) := by rw [HE.out, flat_append, List.append_assoc]; rfl
       exact ⟨⟨g9, c9, by rw [hle]; rfl, by omega, by rw [hfl]; exact Rd.of_own (M := NoBlk) HOw5.out (fun _ h => h.elim)⟩, HB5.out⟩
      ·try simp only [List.getElem_toArray, List.getElem_cons_zero, List.getElem_cons_succ]
       try go_simp
       obtain ⟨V6, hV9⟩ : ∃ V9, V9 = V1.alloc (.cells #[.int .i64 n] 3) := ⟨_, rfl⟩
       obtain ⟨g6, hg9⟩ : ∃ g9, g9 = V1.heap.size := ⟨_, rfl⟩
       have HB6 := hide (show Below w.heap.size w V6 by rw [hV9]; exact HB1.out.alloc HB1.out.size _)
       have HX6 := hide (show Blk V6 g6 3 #[.int .i64 n] by rw [hV9, hg9]; exact Blk.new _ _ _)
       have HOw6 := hide (show V6.ownsRow w.heap.size 3 1 (.slice (some ⟨g1, 0, none⟩) 0 0) (0) ([]) by rw [hV9]; exact HOw1.out.alloc _)
       have HNe6 := hide (show g1 ≠ g6 by rw [hg9]; have := HRlHOw1.out; omega)
       rw [← hV9, ← hg9]
       clear hV9 hg9
       refine hK.out _ _ trivial (fun hHeld => ?_)
       clear hK K
       try simp only [Act.put, List.setIfInBounds_toArray, List.set_cons_zero, List.set_cons_succ, List.getElem_toArray, List.getElem_cons_zero, List.getElem_cons_succ]
       refine wpAnyH_ready (rs := [4]) (by kernel_rfl) (by simp) ?_
       refine AllReadyH.cons rfl (fun K hK => ?_) AllReadyH.nil
       refine step_append_rd V6 (by rfl) (.tmp 37) (.tmp 40) _ (by rfl) w.heap.size 3 i0 (.int .i64 0) 1 8 Tryz.underlying58 hi hz0 hz1 hz2 rfl (by omega) (.slice (some ⟨g1, 0, none⟩) 0 0) (0) ([]) (by rfl) HOw6.out NoBlk (some ⟨g, 0, none⟩) (c) (c) (flat encI (l.take c)) (by rfl) ((HT.out c hj).2.below (HBf HB6.out)) (HT.out c hj).1 (encI_one (l.take c)) (by simp only [maxLen]; omega) (by omega) HB6.out.size ?_
       intro v7 V7 hown hgr how
       have HB7 := hide (HB6.out.grown hgr HB6.out.size (fun k hk => own_ge HOw6.out k hk))
       simp only [Nat.zero_add, List.nil_append] at hown
       have HOw7 := hide hown
       have HX7 := hide (beside' HX6.out (fun k hk => by simp [Value.ownBlock] at hk; have := HNe6.out; omega) hgr)
       clear hown hgr how
       refine hK.out _ _ trivial (fun hHeld => ?_)
       clear hK K
       try simp only [Act.put, List.setIfInBounds_toArray, List.set_cons_zero, List.set_cons_succ, List.getElem_toArray, List.getElem_cons_zero, List.getElem_cons_succ]
       refine wpAnyH_ready (rs := [7]) (by kernel_rfl) (by simp) ?_
       refine AllReadyH.cons rfl (fun K hK => ?_) AllReadyH.nil
       refine step_append_rd V7 (by rfl) (.tmp 41) (.tmp 43) _ (by rfl) w.heap.size 3 i0 (.int .i64 0) 1 8 Tryz.underlying58 hi hz0 hz1 hz2 rfl (by omega) v7 (c) ((flat encI (l.take c))) (by rfl) HOw7.out NoBlk (some ⟨g6, 0, none⟩) (1) (1) (flat encI [n]) (by rfl) (rd_blkN HX7.out (fun h => h)) rfl (encI_one [n]) (by simp only [maxLen]; omega) (by omega) HB7.out.size ?_
       intro v8 V8 hown hgr how
       have HB8 := hide (HB7.out.grown hgr HB7.out.size (fun k hk => own_ge HOw7.out k hk))
       have HOw8 := hide hown
       clear hown hgr how
       refine hK.out _ _ trivial (fun hHeld => ?_)
       clear hK K
       try simp only [Act.put, List.setIfInBounds_toArray, List.set_cons_zero, List.set_cons_succ, List.getElem_toArray, List.getElem_cons_zero, List.getElem_cons_succ]
       refine wpAnyH_ready (rs := [11]) (by kernel_rfl) (by simp) ?_
       refine AllReadyH.cons rfl (fun K hK => ?_) AllReadyH.nil
       refine step_append_rd V8 (by rfl) (.tmp 44) (.tmp 47) _ (by rfl) w.heap.size 3 i0 (.int .i64 0) 1 8 Tryz.underlying58 hi hz0 hz1 hz2 rfl (by omega) v8 (c + 1) ((flat encI (l.take c) ++ flat encI [n])) (by rfl) HOw8.out NoBlk (some ⟨g, 0, none⟩) (0) (0) (flat encI (l.drop c)) (by rfl) (HDr.out.below (HBf HB8.out)) HDl.out (encI_one (l.drop c)) (by simp only [maxLen]; omega) (by omega) HB8.out.size ?_
       intro v9 V9 hown hgr how
       have HB9 := hide (HB8.out.grown hgr HB8.out.size (fun k hk => own_ge HOw8.out k hk))
       have HOw9 := hide hown
       clear hown hgr how
       refine hK.out _ _ trivial (fun hHeld => ?_)
       clear hK K
       try simp only [Act.put, List.setIfInBounds_toArray, List.set_cons_zero, List.set_cons_succ, List.getElem_toArray, List.getElem_cons_zero, List.getElem_cons_succ]
       refine wpAnyH_take (i := 12) (v := ?_) rfl (by kernel_rfl) (by kernel_rfl) (by kernel_rfl) (fun _ _ _ h => h) (Or.inl ⟨by rfl, ?_⟩) (by assumption) ?_
       rotate_left
       ·(intro w9 hS9; (try simp only [List.getElem_toArray, List.getElem_cons_zero, List.getElem_cons_succ]); go_simp <;> rfl)
       try simp only [Act.put, List.setIfInBounds_toArray, List.set_cons_zero, List.set_cons_succ, List.getElem_toArray, List.getElem_cons_zero, List.getElem_cons_succ]
       refine wpAnyH_done (by kernel_rfl) ?_ _
       try simp only [Exit.then]
       clear hHeld
       go_wp2_with fail
       go_ret
       obtain ⟨g9, c9, rfl, hc9⟩ := own_some HOw9.out (by omega)
       have hle : R.length = c + 1 + 0 := by rw [HE.out, List.length_append, List.length_cons, List.length_take, List.length_drop, ← Hm.out]; omega
       have hfl : flat encI R = flat encI (l.take c) ++ flat encI [n] ++ flat encI (l.drop c) := by rw [HE.out, flat_append, List.append_assoc]; rfl
       exact ⟨⟨g9, c9, by rw [hle]; rfl, by omega, by rw [hfl]; exact Rd.of_own (M := NoBlk) HOw9.out (fun _ h => h.elim)⟩, HB9.out⟩
     ·try simp only [List.getElem_toArray, List.getElem_cons_zero, List.getElem_cons_succ]
      try go_simp
      obtain ⟨V10, hV9⟩ : ∃ V9, V9 = V0.alloc (.cells #[.int .i64 n] 3) := ⟨_, rfl⟩
      obtain ⟨g10, hg9⟩ : ∃ g9, g9 = V0.heap.size := ⟨_, rfl⟩
      have HB10 := hide (show Below w.heap.size w V10 by rw [hV9]; exact HB0.out.alloc HB0.out.size _)
      have HX10 := hide (show Blk V10 g10 3 #[.int .i64 n] by rw [hV9, hg9]; exact Blk.new _ _ _)
      rw [← hV9, ← hg9]
      clear hV9 hg9
      refine hK.out _ _ trivial (fun hHeld => ?_)
      clear hK K
      try simp only [Act.put, List.setIfInBounds_toArray, List.set_cons_zero, List.set_cons_succ, List.getElem_toArray, List.getElem_cons_zero, List.getElem_cons_succ]
      refine wpAnyH_ready (rs := [0]) (by kernel_rfl) (by simp) ?_
      refine AllReadyH.cons rfl (fun K hK => ?_) AllReadyH.nil
      try simp only [List.getElem_toArray, List.getElem_cons_zero, List.getElem_cons_succ]
      try go_simp
      obtain ⟨V11, hV9⟩ : ∃ V9, V9 = V10.alloc (.cells #[] 3) := ⟨_, rfl⟩
      obtain ⟨g11, hg9⟩ : ∃ g9, g9 = V10.heap.size := ⟨_, rfl⟩
      have HB11 := hide (show Below w.heap.size w V11 by rw [hV9]; exact HB10.out.alloc HB10.out.size _)
      have HOw11 := hide (show V11.ownsRow w.heap.size 3 1 (.slice (some ⟨g11, 0, none⟩) 0 0) 0 [] by rw [hV9, hg9]; exact own_empty HB10.out.size)
      have HX11 := hide (show Blk V11 g10 3 #[.int .i64 n] by rw [hV9]; exact HX10.out.alloc _)
      have HNe11 := hide (show g11 ≠ g10 by rw [hg9]; have := HX10.out.lt; omega)
      have HRlHOw11 := hide (show g11 < V11.heap.size by rw [hV9, hg9]; simp)
      rw [← hV9, ← hg9]
      clear hV9 hg9
      refine hK.out _ _ trivial (fun hHeld => ?_)
      clear hK K
      try simp only [Act.put, List.setIfInBounds_toArray, List.set_cons_zero, List.set_cons_succ, List.getElem_toArray, List.getElem_cons_zero, List.getElem_cons_succ]
      refine wpAnyH_ready (rs := [4]) (by kernel_rfl) (by simp) ?_
      refine AllReadyH.cons rfl (fun K hK => ?_) AllReadyH.nil
      refine step_append_rd V11 (by rfl) (.tmp 37) (.tmp 40) _ (by rfl) w.heap.size 3 i0 (.int .i64 0) 1 8 Tryz.underlying58 hi hz0 hz1 hz2 rfl (by omega) (.slice (some ⟨g11, 0, none⟩) 0 0) (0) ([]) (by rfl) HOw11.out NoBlk (some ⟨g, 0, none⟩) (c) (c) (flat encI (l.take c)) (by rfl) ((HT.out c hj).2.below (HBf HB11.out)) (HT.out c hj).1 (encI_one (l.take c)) (by simp only [maxLen]; omega) (by omega) HB11.out.size ?_
      intro v12 V12 hown hgr how
      have HB12 := hide (HB11.out.grown hgr HB11.out.size (fun k hk => own_ge HOw11.out k hk))
      simp only [Nat.zero_add, List.nil_append] at hown
      have HOw12 := hide hown
      have HX12 := hide (beside' HX11.out (fun k hk => by simp [Value.ownBlock] at hk; have := HNe11.out; omega) hgr)
      clear hown hgr how
      refine hK.out _ _ trivial (fun hHeld => ?_)
      clear hK K
      try simp only [Act.put, List.setIfInBounds_toArray, List.set_cons_zero, List.set_cons_succ, List.getElem_toArray, List.getElem_cons_zero, List.getElem_cons_succ]
      refine wpAnyH_ready (rs := [7]) (by kernel_rfl) (by simp) ?_
      refine AllReadyH.cons rfl (fun K hK => ?_) AllReadyH.nil
      refine step_append_rd V12 (by rfl) (.tmp 41) (.tmp 43) _ (by rfl) w.heap.size 3 i0 (.int .i64 0) 1 8 Tryz.underlying58 hi hz0 hz1 hz2 rfl (by omega) v12 (c) ((flat encI (l.take c))) (by rfl) HOw12.out NoBlk (some ⟨g10, 0, none⟩) (1) (1) (flat encI [n]) (by rfl) (rd_blkN HX12.out (fun h => h)) rfl (encI_one [n]) (by simp only [maxLen]; omega) (by omega) HB12.out.size ?_
      intro v13 V13 hown hgr how
      have HB13 := hide (HB12.out.grown hgr HB12.out.size (fun k hk => own_ge HOw12.out k hk))
      have HOw13 := hide hown
      clear hown hgr how
      refine hK.out _ _ trivial (fun hHeld => ?_)
      clear hK K
      try simp only [Act.put, List.setIfInBounds_toArray, List.set_cons_zero, List.set_cons_succ, List.getElem_toArray, List.getElem_cons_zero, List.getElem_cons_succ]
      refine wpAnyH_ready (rs := [11]) (by kernel_rfl) (by simp) ?_
      refine AllReadyH.cons rfl (fun K hK => ?_) AllReadyH.nil
      refine step_append_rd V13 (by rfl) (.tmp 44) (.tmp 47) _ (by rfl) w.heap.size 3 i0 (.int .i64 0) 1 8 Tryz.underlying58 hi hz0 hz1 hz2 rfl (by omega) v13 (c + 1) ((flat encI (l.take c) ++ flat encI [n])) (by rfl) HOw13.out NoBlk (some ⟨g, 0, none⟩) (0) (0) (flat encI (l.drop c)) (by rfl) (HDr.out.below (HBf HB13.out)) HDl.out (encI_one (l.drop c)) (by simp only [maxLen]; omega) (by omega) HB13.out.size ?_
      intro v14 V14 hown hgr how
      have HB14 := hide (HB13.out.grown hgr HB13.out.size (fun k hk => own_ge HOw13.out k hk))
      have HOw14 := hide hown
      clear hown hgr how
      refine hK.out _ _ trivial (fun hHeld => ?_)
      clear hK K
      try simp only [Act.put, List.setIfInBounds_toArray, List.set_cons_zero, List.set_cons_succ, List.getElem_toArray, List.getElem_cons_zero, List.getElem_cons_succ]
      refine wpAnyH_take (i := 12) (v := ?_) rfl (by kernel_rfl) (by kernel_rfl) (by kernel_rfl) (fun _ _ _ h => h) (Or.inl ⟨by rfl, ?_⟩) (by assumption) ?_
      rotate_left
      ·(intro w9 hS9; (try simp only [List.getElem_toArray, List.getElem_cons_zero, List.getElem_cons_succ]); go_simp <;> rfl)
      try simp only [Act.put, List.setIfInBounds_toArray, List.set_cons_zero, List.set_cons_succ, List.getElem_toArray, List.getElem_cons_zero, List.getElem_cons_succ]
      refine wpAnyH_done (by kernel_rfl) ?_ _
      try simp only [Exit.then]
      clear hHeld
      go_wp2_with fail
      go_ret
      obtain ⟨g9, c9, rfl, hc9⟩ := own_some HOw14.out (by omega)
      have hle : R.length = c + 1 + 0 := by rw [HE.out, List.length_append, List.length_cons, List.length_take, List.length_drop, ← Hm.out]; omega
      have hfl : flat encI R = flat encI (l.take c) ++ flat encI [n] ++ flat encI (l.drop c) := by rw [HE.out, flat_append, List.append_assoc]; rfl
      exact ⟨⟨g9, c9, by rw [hle]; rfl, by omega, by rw [hfl]; exact Rd.of_own (M := NoBlk) HOw14.out (fun _ h => h.elim)⟩, HB14.out⟩
    case neg =>
     have HDr := hide (HD.out j hj).2
     have HDl := hide (HD.out j hj).1
     have hc0 : ¬ c = 0 := by omega
     have hc0p : 0 < c := by omega
     have hjc : j < c := by omega
     have hcj2 : ¬ j = c := by omega
     have hcj3 : ¬ c = j := by omega
     have hjc3 : j ≤ c := by omega
     have hjc4 : (j : Int) ≤ (c : Int) := by omega
     have hjc5 : (0 : Int) ≤ (j : Int) := by omega
     have hjc6 : (j : Int) ≤ (m : Int) := by omega
     go_upto_region 6 with fail
     obtain ⟨V0, hV0⟩ : ∃ V9, V9 = w.drew := ⟨_, rfl⟩
     have HB0 := hide (show Below w.heap.size w V0 by rw [hV0]; exact (Below.refl _ _).drew)
     refine wp_region_held (S := fun _ => True) (by kernel_rfl) ?_
     change wpAnyH _ _ _ _ _ _ _ _ w.drew
     have hHeld : (fun _ => True) w.drew := trivial
     rw [← hV0] at hHeld ⊢
     simp only [List.size_toArray, List.length_cons, List.length_nil, Nat.zero_add, Nat.reduceAdd]
     clear hV0
     refine wpAnyH_take (i := 1) (v := ?_) rfl (by kernel_rfl) (by kernel_rfl) (by kernel_rfl) (fun _ _ _ h => h) (Or.inl ⟨by rfl, ?_⟩) (by assumption) ?_
     rotate_left
     ·(intro w9 hS9; (try simp only [List.getElem_toArray, List.getElem_cons_zero, List.getElem_cons_succ]); go_simp <;> rfl)
     try simp only [Act.put, List.setIfInBounds_toArray, List.set_cons_zero, List.set_cons_succ, List.getElem_toArray, List.getElem_cons_zero, List.getElem_cons_succ]
     refine wpAnyH_take (i := 2) (v := ?_) rfl (by kernel_rfl) (by kernel_rfl) (by kernel_rfl) (fun _ _ _ h => h) (Or.inl ⟨by rfl, ?_⟩) (by assumption) ?_
     rotate_left
     ·(intro w9 hS9; (try simp only [List.getElem_toArray, List.getElem_cons_zero, List.getElem_cons_succ]); go_simp <;> rfl)
     try simp only [Act.put, List.setIfInBounds_toArray, List.set_cons_zero, List.set_cons_succ, List.getElem_toArray, List.getElem_cons_zero, List.getElem_cons_succ]
     refine wpAnyH_take (i := 3) (v := ?_) rfl (by kernel_rfl) (by kernel_rfl) (by kernel_rfl) (fun _ _ _ h => h) (Or.inl ⟨by rfl, ?_⟩) (by assumption) ?_
     rotate_left
     ·(intro w9 hS9; (try simp only [List.getElem_toArray, List.getElem_cons_zero, List.getElem_cons_succ]); go_simp <;> rfl)
     try simp only [Act.put, List.setIfInBounds_toArray, List.set_cons_zero, List.set_cons_succ, List.getElem_toArray, List.getElem_cons_zero, List.getElem_cons_succ]
     refine wpAnyH_take (i := 5) (v := ?_) rfl (by kernel_rfl) (by kernel_rfl) (by kernel_rfl) (fun _ _ _ h => h) (Or.inl ⟨by rfl, ?_⟩) (by assumption) ?_
     rotate_left
     ·(intro w9 hS9; (try simp only [List.getElem_toArray, List.getElem_cons_zero, List.getElem_cons_succ]); go_simp <;> rfl)
     try simp only [Act.put, List.setIfInBounds_toArray, List.set_cons_zero, List.set_cons_succ, List.getElem_toArray, List.getElem_cons_zero, List.getElem_cons_succ]
     refine wpAnyH_take (i := 8) (v := ?_) rfl (by kernel_rfl) (by kernel_rfl) (by kernel_rfl) (fun _ _ _ h => h) (Or.inl ⟨by rfl, ?_⟩) (by assumption) ?_
     rotate_left
     ·(intro w9 hS9; (try simp only [List.getElem_toArray, List.getElem_cons_zero, List.getElem_cons_succ]); go_simp <;> rfl)
     try simp only [Act.put, List.setIfInBounds_toArray, List.set_cons_zero, List.set_cons_succ, List.getElem_toArray, List.getElem_cons_zero, List.getElem_cons_succ]
     refine wpAnyH_take (i := 9) (v := ?_) rfl (by kernel_rfl) (by kernel_rfl) (by kernel_rfl) (fun _ _ _ h => h) (Or.inl ⟨by rfl, ?_⟩) (by assumption) ?_
     rotate_left
     ·(intro w9 hS9; (try simp only [List.getElem_toArray, List.getElem_cons_zero, List.getElem_cons_succ]); go_simp <;> rfl)
     try simp only [Act.put, List.setIfInBounds_toArray, List.set_cons_zero, List.set_cons_succ, List.getElem_toArray, List.getElem_cons_zero, List.getElem_cons_succ]
     refine wpAnyH_take (i := 10) (v := ?_) rfl (by kernel_rfl) (by kernel_rfl) (by kernel_rfl) (fun _ _ _ h => h) (Or.inl ⟨by rfl, ?_⟩) (by assumption) ?_
     rotate_left
     ·(intro w9 hS9; (try simp only [List.getElem_toArray, List.getElem_cons_zero, List.getElem_cons_succ]); go_simp <;> rfl)
     try simp only [Act.put, List.setIfInBounds_toArray, List.set_cons_zero, List.set_cons_succ, List.getElem_toArray, List.getElem_cons_zero, List.getElem_cons_succ]
     refine wpAnyH_ready (rs := [0, 6]) (by kernel_rfl) (by simp) ?_
     refine AllReadyH.cons rfl (fun K hK => ?_) (AllReadyH.cons rfl (fun K hK => ?_) AllReadyH.nil)
     ·try simp only [List.getElem_toArray, List.getElem_cons_zero, List.getElem_cons_succ]
      try go_simp
      obtain ⟨V1, hV9⟩ : ∃ V9, V9 = V0.alloc (.cells #[] 3) := ⟨_, rfl⟩
      obtain ⟨g1, hg9⟩ : ∃ g9, g9 = V0.heap.size := ⟨_, rfl⟩
      have HB1 := hide (show Below w.heap.size w V1 by rw [hV9]; exact HB0.out.alloc HB0.out.size _)
      have HOw1 := hide (show V1.ownsRow w.heap.size 3 1 (.slice (some ⟨g1, 0, none⟩) 0 0) 0 [] by rw [hV9, hg9]; exact own_empty HB0.out.size)
      have HRlHOw1 := hide (show g1 < V1.heap.size by rw [hV9, hg9]; simp)
      rw [← hV9, ← hg9]
      clear hV9 hg9
      refine hK.out _ _ trivial (fun hHeld => ?_)
      clear hK K
      try simp only [Act.put, List.setIfInBounds_toArray, List.set_cons_zero, List.set_cons_succ, List.getElem_toArray, List.getElem_cons_zero, List.getElem_cons_succ]
      refine wpAnyH_ready (rs := [4, 6]) (by kernel_rfl) (by simp) ?_
      refine AllReadyH.cons rfl (fun K hK => ?_) (AllReadyH.cons rfl (fun K hK => ?_) AllReadyH.nil)
      ·refine step_append_rd V1 (by rfl) (.tmp 37) (.tmp 40) _ (by rfl) w.heap.size 3 i0 (.int .i64 0) 1 8 Tryz.underlying58 hi hz0 hz1 hz2 rfl (by omega) (.slice (some ⟨g1, 0, none⟩) 0 0) (0) ([]) (by rfl) HOw1.out NoBlk (some ⟨g, 0, none⟩) (j) (c) (flat encI (l.take j)) (by rfl) ((HT.out j hj).2.below (HBf HB1.out)) (HT.out j hj).1 (encI_one (l.take j)) (by simp only [maxLen]; omega) (by omega) HB1.out.size ?_
       intro v2 V2 hown hgr how
       have HB2 := hide (HB1.out.grown hgr HB1.out.size (fun k hk => own_ge HOw1.out k hk))
       simp only [Nat.zero_add, List.nil_append] at hown
       have HOw2 := hide hown
       clear hown hgr how
       refine hK.out _ _ trivial (fun hHeld => ?_)
       clear hK K
       try simp only [Act.put, List.setIfInBounds_toArray, List.set_cons_zero, List.set_cons_succ, List.getElem_toArray, List.getElem_cons_zero, List.getElem_cons_succ]
       refine wpAnyH_ready (rs := [6]) (by kernel_rfl) (by simp) ?_
       refine AllReadyH.cons rfl (fun K hK => ?_) AllReadyH.nil
       try simp only [List.getElem_toArray, List.getElem_cons_zero, List.getElem_cons_succ]
       try go_simp
       obtain ⟨V3, hV9⟩ : ∃ V9, V9 = V2.alloc (.cells #[.int .i64 n] 3) := ⟨_, rfl⟩
       obtain ⟨g3, hg9⟩ : ∃ g9, g9 = V2.heap.size := ⟨_, rfl⟩
       have HB3 := hide (show Below w.heap.size w V3 by rw [hV9]; exact HB2.out.alloc HB2.out.size _)
       have HX3 := hide (show Blk V3 g3 3 #[.int .i64 n] by rw [hV9, hg9]; exact Blk.new _ _ _)
       have HOw3 := hide (show V3.ownsRow w.heap.size 3 1 v2 (j) ((flat encI (l.take j))) by rw [hV9]; exact HOw2.out.alloc _)
       rw [← hV9, ← hg9]
       clear hV9 hg9
       refine hK.out _ _ trivial (fun hHeld => ?_)
       clear hK K
       try simp only [Act.put, List.setIfInBounds_toArray, List.set_cons_zero, List.set_cons_succ, List.getElem_toArray, List.getElem_cons_zero, List.getElem_cons_succ]
       refine wpAnyH_ready (rs := [7]) (by kernel_rfl) (by simp) ?_
       refine AllReadyH.cons rfl (fun K hK => ?_) AllReadyH.nil
       refine step_append_rd V3 (by rfl) (.tmp 41) (.tmp 43) _ (by rfl) w.heap.size 3 i0 (.int .i64 0) 1 8 Tryz.underlying58 hi hz0 hz1 hz2 rfl (by omega) v2 (j) ((flat encI (l.take j))) (by rfl) HOw3.out NoBlk (some ⟨g3, 0, none⟩) (1) (1) (flat encI [n]) (by rfl) (rd_blkN HX3.out (fun h => h)) rfl (encI_one [n]) (by simp only [maxLen]; omega) (by omega) HB3.out.size ?_
       intro v4 V4 hown hgr how
       have HB4 := hide (HB3.out.grown hgr HB3.out.size (fun k hk => own_ge HOw3.out k hk))
       have HOw4 := hide hown
       clear hown hgr how
       refine hK.out _ _ trivial (fun hHeld => ?_)
       clear hK K
       try simp only [Act.put, List.setIfInBounds_toArray, List.set_cons_zero, List.set_cons_succ, List.getElem_toArray, List.getElem_cons_zero, List.getElem_cons_succ]
       refine wpAnyH_ready (rs := [11]) (by kernel_rfl) (by simp) ?_
       refine AllReadyH.cons rfl (fun K hK => ?_) AllReadyH.nil
       refine step_append_rd V4 (by rfl) (.tmp 44) (.tmp 47) _ (by rfl) w.heap.size 3 i0 (.int .i64 0) 1 8 Tryz.underlying58 hi hz0 hz1 hz2 rfl (by omega) v4 (j + 1) ((flat encI (l.take j) ++ flat encI [n])) (by rfl) HOw4.out NoBlk (some ⟨g, j, none⟩) ((m - j)) ((c - j)) (flat encI (l.drop j)) (by rfl) (HDr.out.below (HBf HB4.out)) HDl.out (encI_one (l.drop j)) (by simp only [maxLen]; omega) (by omega) HB4.out.size ?_
       intro v5 V5 hown hgr how
       have HB5 := hide (HB4.out.grown hgr HB4.out.size (fun k hk => own_ge HOw4.out k hk))
       have HOw5 := hide hown
       clear hown hgr how
       refine hK.out _ _ trivial (fun hHeld => ?_)
       clear hK K
       try simp only [Act.put, List.setIfInBounds_toArray, List.set_cons_zero, List.set_cons_succ, List.getElem_toArray, List.getElem_cons_zero, List.getElem_cons_succ]
       refine wpAnyH_take (i := 12) (v := ?_) rfl (by kernel_rfl) (by kernel_rfl) (by kernel_rfl) (fun _ _ _ h => h) (Or.inl ⟨by rfl, ?_⟩) (by assumption) ?_
       rotate_left
       ·(intro w9 hS9; (try simp only [List.getElem_toArray, List.getElem_cons_zero, List.getElem_cons_succ]); go_simp <;> rfl)
       try simp only [Act.put, List.setIfInBounds_toArray, List.set_cons_zero, List.set_cons_succ, List.getElem_toArray, List.getElem_cons_zero, List.getElem_cons_succ]
       refine wpAnyH_done (by kernel_rfl) ?_ _
       try simp only [Exit.then]
       clear hHeld
       go_wp2_with fail
       go_ret
       obtain ⟨g9, c9, rfl, hc9⟩ := own_some HOw5.out (by omega)
       have hle : R.length = j + 1 + (m - j) := by rw [HE.out, List.length_append, List.length_cons, List.length_take, List.length_drop, ← Hm.out]; omega
       have hfl : flat encI R = flat encI (l.take j) ++ flat encI [n] ++ flat encI (l.drop j) := by rw [HE.out, flat_append, List.append_assoc]; rfl
       exact ⟨⟨g9, c9, by rw [hle]; rfl, by omega, by rw [hfl]; exact Rd.of_own (M := NoBlk) HOw5.out (fun _ h => h.elim)⟩, HB5.out⟩
      ·try simp only [List.getElem_toArray, List.getElem_cons_zero, List.getElem_cons_succ]
       try go_simp
       obtain ⟨V6, hV9⟩ : ∃ V9, V9 = V1.alloc (.cells #[.int .i64 n] 3) := ⟨_, rfl⟩
       obtain ⟨g6, hg9⟩ : ∃ g9, g9 = V1.heap.size := ⟨_, rfl⟩
       have HB6 := hide (show Below w.heap.size w V6 by rw [hV9]; exact HB1.out.alloc HB1.out.size _)
       have HX6 := hide (show Blk V6 g6 3 #[.int .i64 n] by rw [hV9, hg9]; exact Blk.new _ _ _)
       have HOw6 := hide (show V6.ownsRow w.heap.size 3 1 (.slice (some ⟨g1, 0, none⟩) 0 0) (0) ([]) by rw [hV9]; exact HOw1.out.alloc _)
       have HNe6 := hide (show g1 ≠ g6 by rw [hg9]; have := HRlHOw1.out; omega)
       rw [← hV9, ← hg9]
       clear hV9 hg9
       refine hK.out _ _ trivial (fun hHeld => ?_)
       clear hK K
       try simp only [Act.put, List.setIfInBounds_toArray, List.set_cons_zero, List.set_cons_succ, List.getElem_toArray, List.getElem_cons_zero, List.getElem_cons_succ]
       refine wpAnyH_ready (rs := [4]) (by kernel_rfl) (by simp) ?_
       refine AllReadyH.cons rfl (fun K hK => ?_) AllReadyH.nil
       refine step_append_rd V6 (by rfl) (.tmp 37) (.tmp 40) _ (by rfl) w.heap.size 3 i0 (.int .i64 0) 1 8 Tryz.underlying58 hi hz0 hz1 hz2 rfl (by omega) (.slice (some ⟨g1, 0, none⟩) 0 0) (0) ([]) (by rfl) HOw6.out NoBlk (some ⟨g, 0, none⟩) (j) (c) (flat encI (l.take j)) (by rfl) ((HT.out j hj).2.below (HBf HB6.out)) (HT.out j hj).1 (encI_one (l.take j)) (by simp only [maxLen]; omega) (by omega) HB6.out.size ?_
       intro v7 V7 hown hgr how
       have HB7 := hide (HB6.out.grown hgr HB6.out.size (fun k hk => own_ge HOw6.out k hk))
       simp only [Nat.zero_add, List.nil_append] at hown
       have HOw7 := hide hown
       have HX7 := hide (beside' HX6.out (fun k hk => by simp [Value.ownBlock] at hk; have := HNe6.out; omega) hgr)
       clear hown hgr how
       refine hK.out _ _ trivial (fun hHeld => ?_)
       clear hK K
       try simp only [Act.put, List.setIfInBounds_toArray, List.set_cons_zero, List.set_cons_succ, List.getElem_toArray, List.getElem_cons_zero, List.getElem_cons_succ]
       refine wpAnyH_ready (rs := [7]) (by kernel_rfl) (by simp) ?_
       refine AllReadyH.cons rfl (fun K hK => ?_) AllReadyH.nil
       refine step_append_rd V7 (by rfl) (.tmp 41) (.tmp 43) _ (by rfl) w.heap.size 3 i0 (.int .i64 0) 1 8 Tryz.underlying58 hi hz0 hz1 hz2 rfl (by omega) v7 (j) ((flat encI (l.take j))) (by rfl) HOw7.out NoBlk (some ⟨g6, 0, none⟩) (1) (1) (flat encI [n]) (by rfl) (rd_blkN HX7.out (fun h => h)) rfl (encI_one [n]) (by simp only [maxLen]; omega) (by omega) HB7.out.size ?_
       intro v8 V8 hown hgr how
       have HB8 := hide (HB7.out.grown hgr HB7.out.size (fun k hk => own_ge HOw7.out k hk))
       have HOw8 := hide hown
       clear hown hgr how
       refine hK.out _ _ trivial (fun hHeld => ?_)
       clear hK K
       try simp only [Act.put, List.setIfInBounds_toArray, List.set_cons_zero, List.set_cons_succ, List.getElem_toArray, List.getElem_cons_zero, List.getElem_cons_succ]
       refine wpAnyH_ready (rs := [11]) (by kernel_rfl) (by simp) ?_
       refine AllReadyH.cons rfl (fun K hK => ?_) AllReadyH.nil
       refine step_append_rd V8 (by rfl) (.tmp 44) (.tmp 47) _ (by rfl) w.heap.size 3 i0 (.int .i64 0) 1 8 Tryz.underlying58 hi hz0 hz1 hz2 rfl (by omega) v8 (j + 1) ((flat encI (l.take j) ++ flat encI [n])) (by rfl) HOw8.out NoBlk (some ⟨g, j, none⟩) ((m - j)) ((c - j)) (flat encI (l.drop j)) (by rfl) (HDr.out.below (HBf HB8.out)) HDl.out (encI_one (l.drop j)) (by simp only [maxLen]; omega) (by omega) HB8.out.size ?_
       intro v9 V9 hown hgr how
       have HB9 := hide (HB8.out.grown hgr HB8.out.size (fun k hk => own_ge HOw8.out k hk))
       have HOw9 := hide hown
       clear hown hgr how
       refine hK.out _ _ trivial (fun hHeld => ?_)
       clear hK K
       try simp only [Act.put, List.setIfInBounds_toArray, List.set_cons_zero, List.set_cons_succ, List.getElem_toArray, List.getElem_cons_zero, List.getElem_cons_succ]
       refine wpAnyH_take (i := 12) (v := ?_) rfl (by kernel_rfl) (by kernel_rfl) (by kernel_rfl) (fun _ _ _ h => h) (Or.inl ⟨by rfl, ?_⟩) (by assumption) ?_
       rotate_left
       ·(intro w9 hS9; (try simp only [List.getElem_toArray, List.getElem_cons_zero, List.getElem_cons_succ]); go_simp <;> rfl)
       try simp only [Act.put, List.setIfInBounds_toArray, List.set_cons_zero, List.set_cons_succ, List.getElem_toArray, List.getElem_cons_zero, List.getElem_cons_succ]
       refine wpAnyH_done (by kernel_rfl) ?_ _
       try simp only [Exit.then]
       clear hHeld
       go_wp2_with fail
       go_ret
       obtain ⟨g9, c9, rfl, hc9⟩ := own_some HOw9.out (by omega)
       have hle : R.length = j + 1 + (m - j) := by rw [HE.out, List.length_append, List.length_cons, List.length_take, List.length_drop, ← Hm.out]; omega
       have hfl : flat encI R = flat encI (l.take j) ++ flat encI [n] ++ flat encI (l.drop j) := by rw [HE.out, flat_append, List.append_assoc]; rfl
       exact ⟨⟨g9, c9, by rw [hle]; rfl, by omega, by rw [hfl]; exact Rd.of_own (M := NoBlk) HOw9.out (fun _ h => h.elim)⟩, HB9.out⟩
     ·try simp only [List.getElem_toArray, List.getElem_cons_zero, List.getElem_cons_succ]
      try go_simp
      obtain ⟨V10, hV9⟩ : ∃ V9, V9 = V0.alloc (.cells #[.int .i64 n] 3) := ⟨_, rfl⟩
      obtain ⟨g10, hg9⟩ : ∃ g9, g9 = V0.heap.size := ⟨_, rfl⟩
      have HB10 := hide (show Below w.heap.size w V10 by rw [hV9]; exact HB0.out.alloc HB0.out.size _)
      have HX10 := hide (show Blk V10 g10 3 #[.int .i64 n] by rw [hV9, hg9]; exact Blk.new _ _ _)
      rw [← hV9, ← hg9]
      clear hV9 hg9
      refine hK.out _ _ trivial (fun hHeld => ?_)
      clear hK K
      try simp only [Act.put, List.setIfInBounds_toArray, List.set_cons_zero, List.set_cons_succ, List.getElem_toArray, List.getElem_cons_zero, List.getElem_cons_succ]
      refine wpAnyH_ready (rs := [0]) (by kernel_rfl) (by simp) ?_
      refine AllReadyH.cons rfl (fun K hK => ?_) AllReadyH.nil
      try simp only [List.getElem_toArray, List.getElem_cons_zero, List.getElem_cons_succ]
      try go_simp
      obtain ⟨V11, hV9⟩ : ∃ V9, V9 = V10.alloc (.cells #[] 3) := ⟨_, rfl⟩
      obtain ⟨g11, hg9⟩ : ∃ g9, g9 = V10.heap.size := ⟨_, rfl⟩
      have HB11 := hide (show Below w.heap.size w V11 by rw [hV9]; exact HB10.out.alloc HB10.out.size _)
      have HOw11 := hide (show V11.ownsRow w.heap.size 3 1 (.slice (some ⟨g11, 0, none⟩) 0 0) 0 [] by rw [hV9, hg9]; exact own_empty HB10.out.size)
      have HX11 := hide (show Blk V11 g10 3 #[.int .i64 n] by rw [hV9]; exact HX10.out.alloc _)
      have HNe11 := hide (show g11 ≠ g10 by rw [hg9]; have := HX10.out.lt; omega)
      have HRlHOw11 := hide (show g11 < V11.heap.size by rw [hV9, hg9]; simp)
      rw [← hV9, ← hg9]
      clear hV9 hg9
      refine hK.out _ _ trivial (fun hHeld => ?_)
      clear hK K
      try simp only [Act.put, List.setIfInBounds_toArray, List.set_cons_zero, List.set_cons_succ, List.getElem_toArray, List.getElem_cons_zero, List.getElem_cons_succ]
      refine wpAnyH_ready (rs := [4]) (by kernel_rfl) (by simp) ?_
      refine AllReadyH.cons rfl (fun K hK => ?_) AllReadyH.nil
      refine step_append_rd V11 (by rfl) (.tmp 37) (.tmp 40) _ (by rfl) w.heap.size 3 i0 (.int .i64 0) 1 8 Tryz.underlying58 hi hz0 hz1 hz2 rfl (by omega) (.slice (some ⟨g11, 0, none⟩) 0 0) (0) ([]) (by rfl) HOw11.out NoBlk (some ⟨g, 0, none⟩) (j) (c) (flat encI (l.take j)) (by rfl) ((HT.out j hj).2.below (HBf HB11.out)) (HT.out j hj).1 (encI_one (l.take j)) (by simp only [maxLen]; omega) (by omega) HB11.out.size ?_
      intro v12 V12 hown hgr how
      have HB12 := hide (HB11.out.grown hgr HB11.out.size (fun k hk => own_ge HOw11.out k hk))
      simp only [Nat.zero_add, List.nil_append] at hown
      have HOw12 := hide hown
      have HX12 := hide (beside' HX11.out (fun k hk => by simp [Value.ownBlock] at hk; have := HNe11.out; omega) hgr)
      clear hown hgr how
      refine hK.out _ _ trivial (fun hHeld => ?_)
      clear hK K
      try simp only [Act.put, List.setIfInBounds_toArray, List.set_cons_zero, List.set_cons_succ, List.getElem_toArray, List.getElem_cons_zero, List.getElem_cons_succ]
      refine wpAnyH_ready (rs := [7]) (by kernel_rfl) (by simp) ?_
      refine AllReadyH.cons rfl (fun K hK => ?_) AllReadyH.nil
      refine step_append_rd V12 (by rfl) (.tmp 41) (.tmp 43) _ (by rfl) w.heap.size 3 i0 (.int .i64 0) 1 8 Tryz.underlying58 hi hz0 hz1 hz2 rfl (by omega) v12 (j) ((flat encI (l.take j))) (by rfl) HOw12.out NoBlk (some ⟨g10, 0, none⟩) (1) (1) (flat encI [n]) (by rfl) (rd_blkN HX12.out (fun h => h)) rfl (encI_one [n]) (by simp only [maxLen]; omega) (by omega) HB12.out.size ?_
      intro v13 V13 hown hgr how
      have HB13 := hide (HB12.out.grown hgr HB12.out.size (fun k hk => own_ge HOw12.out k hk))
      have HOw13 := hide hown
      clear hown hgr how
      refine hK.out _ _ trivial (fun hHeld => ?_)
      clear hK K
      try simp only [Act.put, List.setIfInBounds_toArray, List.set_cons_zero, List.set_cons_succ, List.getElem_toArray, List.getElem_cons_zero, List.getElem_cons_succ]
      refine wpAnyH_ready (rs := [11]) (by kernel_rfl) (by simp) ?_
      refine AllReadyH.cons rfl (fun K hK => ?_) AllReadyH.nil
      refine step_append_rd V13 (by rfl) (.tmp 44) (.tmp 47) _ (by rfl) w.heap.size 3 i0 (.int .i64 0) 1 8 Tryz.underlying58 hi hz0 hz1 hz2 rfl (by omega) v13 (j + 1) ((flat encI (l.take j) ++ flat encI [n])) (by rfl) HOw13.out NoBlk (some ⟨g, j, none⟩) ((m - j)) ((c - j)) (flat encI (l.drop j)) (by rfl) (HDr.out.below (HBf HB13.out)) HDl.out (encI_one (l.drop j)) (by simp only [maxLen]; omega) (by omega) HB13.out.size ?_
      intro v14 V14 hown hgr how
      have HB14 := hide (HB13.out.grown hgr HB13.out.size (fun k hk => own_ge HOw13.out k hk))
      have HOw14 := hide hown
      clear hown hgr how
      refine hK.out _ _ trivial (fun hHeld => ?_)
      clear hK K
      try simp only [Act.put, List.setIfInBounds_toArray, List.set_cons_zero, List.set_cons_succ, List.getElem_toArray, List.getElem_cons_zero, List.getElem_cons_succ]
      refine wpAnyH_take (i := 12) (v := ?_) rfl (by kernel_rfl) (by kernel_rfl) (by kernel_rfl) (fun _ _ _ h => h) (Or.inl ⟨by rfl, ?_⟩) (by assumption) ?_
      rotate_left
      ·(intro w9 hS9; (try simp only [List.getElem_toArray, List.getElem_cons_zero, List.getElem_cons_succ]); go_simp <;> rfl)
      try simp only [Act.put, List.setIfInBounds_toArray, List.set_cons_zero, List.set_cons_succ, List.getElem_toArray, List.getElem_cons_zero, List.getElem_cons_succ]
      refine wpAnyH_done (by kernel_rfl) ?_ _
      try simp only [Exit.then]
      clear hHeld
      go_wp2_with fail
      go_ret
      obtain ⟨g9, c9, rfl, hc9⟩ := own_some HOw14.out (by omega)
      have hle : R.length = j + 1 + (m - j) := by rw [HE.out, List.length_append, List.length_cons, List.length_take, List.length_drop, ← Hm.out]; omega
      have hfl : flat encI R = flat encI (l.take j) ++ flat encI [n] ++ flat encI (l.drop j) := by rw [HE.out, flat_append, List.append_assoc]; rfl
      exact ⟨⟨g9, c9, by rw [hle]; rfl, by omega, by rw [hfl]; exact Rd.of_own (M := NoBlk) HOw14.out (fun _ h => h.elim)⟩, HB14.out⟩
end Go.Proofs.YtdmdohjdmnmabaaGreatDoor
