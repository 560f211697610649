/- The walk of proj.Rounds. Conditions: those of each theorem. -/
import Derived.Test.YthnjebpbokmemaaRounds
namespace Go.Proofs.Ythnjebpbokmemaa
open Go.RowKit
set_option linter.unusedVariables false

/-- how long rows may be behind k events -/
def RLen (rs : List (List Ev)) (k : Nat) : Prop := rs.length ≤ k ∧ ∀ i, (rs.getD i []).length ≤ k
theorem RLen.add {rs : List (List Ev)} {k : Nat} (h : RLen rs k) (x : Ev) : RLen (rndAdd rs x) (k + 1) := by
  refine ⟨by have := rndAdd_len rs x; have := h.1; omega, fun i => ?_⟩
  unfold rndAdd
  by_cases h1 : x.k = 1
  · rw [if_pos h1]
    by_cases e : i < rs.length
    · rw [getD_snoc_lt _ _ _ _ e]; have := h.2 i; omega
    · by_cases e2 : i = rs.length
      · subst e2; rw [getD_snoc_eq]; simp
      · have : (rs ++ [[x]]).getD i [] = [] := by simp [List.getD, List.getElem?_eq_none (show (rs ++ [[x]]).length ≤ i by simp; omega)]
        rw [this]; simp
  · rw [if_neg h1]
    by_cases h2 : rs.length = 0
    · rw [if_pos h2]; have := h.2 i; omega
    · rw [if_neg h2]
      by_cases e : rs.length - 1 = i
      · subst e
        rw [getD_set_eq' _ _ _ _ (by omega), List.length_append]
        have := h.2 (rs.length - 1); simp only [List.length_cons, List.length_nil]; omega
      · rw [getD_set_ne' _ _ _ _ _ e]; have := h.2 i; omega
theorem RLen.more {rs : List (List Ev)} {k : Nat} (h : RLen rs k) (i : Nat) : ((rs ++ [[]]).getD i []).length ≤ k := by
  by_cases e : i < rs.length
  · rw [getD_snoc_lt _ _ _ _ e]; exact h.2 i
  · by_cases e2 : i = rs.length
    · subst e2; rw [getD_snoc_eq]; simp
    · have : (rs ++ [[]]).getD i [] = ([] : List Ev) := by simp [List.getD, List.getElem?_eq_none (show (rs ++ [([] : List Ev)]).length ≤ i by simp; omega)]
      rw [this]; simp
theorem set_snoc {α : Type} (l : List α) (a b : α) : (l ++ [a]).set l.length b = l ++ [b] := by simp
/-- what Rounds returns -/
def RetRds (l : List Ev) (w : World) (e : Ending) (w' : World) : Prop :=
  Below w.heap.size w w' ∧ ∃ A c vals, e = .returned (.slice A (roundsL l).length c) ∧ vals.length = (roundsL l).length ∧ Rd w' NoBlk A vals ∧
    ∀ i, i < (roundsL l).length → ∃ A2 c2, vals[i]? = some (.slice A2 ((roundsL l).getD i []).length c2) ∧ Rd w' NoBlk A2 (flat encEv ((roundsL l).getD i [])) ∧ ((roundsL l).getD i []).length ≤ c2
set_option maxRecDepth 100000 in
set_option maxHeartbeats 8000000 in
theorem Rounds_c (A : Option Addr) (c : Nat) (l : List Ev) (w : World) (hr : Rd w NoBlk A (flat encEv l)) (hn : l.length ≤ 10000) :
    Calls Try.prog 18 #[.slice A l.length c] w (RetRds l w) := by
  have Hc := hide (fun k hk => ev_cells hr k hk)
  obtain ⟨ie, hie, hez0, hez1, hez2⟩ := info_parts Try.infoEv
  obtain ⟨is, his, hsz0, hsz1, hsz2⟩ := info_parts Try.infoEvs
  obtain ⟨n, hnl⟩ : ∃ n, n = l.length := ⟨_, rfl⟩
  rw [← hnl] at hn ⊢
  have Hn := hide hnl
  clear hr hnl
  go_enter Try.func18, Try.ntmps18
  go_wp2_with fail
  go_loopw [3, 9] (fun v i wr => ∃ k : Nat, k ≤ n ∧ i = .int .i64 k ∧ Hid (RdsAt wr w.heap.size v (roundsL (l.take k))) ∧ Hid (RLen (roundsL (l.take k)) k) ∧ Hid (Below w.heap.size w wr)) (fun _ i _ => n - (intOf i).toNat)
  case atStart => exact ⟨0, Nat.zero_le _, rfl, hide ⟨⟨[], rfl, ⟨rfl, Or.inl ⟨rfl, rfl⟩⟩, fun i hi => absurd hi (by simp [roundsL]), fun i j b _ hj => absurd hj (by simp [roundsL])⟩⟩, hide ⟨Nat.le_refl _, fun i => by simp [roundsL]⟩, hide (Below.refl _ _)⟩
  case round =>
    obtain ⟨k, hk, rfl, hrds, hRL, hbel⟩ := hrel
    by_cases hlt : k < n
    · obtain ⟨b, o, rfl, _, hb, g0, g1, g2, g3, g4, g5, g6, g7, g8, g9, g10, g11⟩ := Hc.out k (by rw [← Hn.out]; exact hlt)
      replace g0 := bkeepL hbel.out hb g0
      replace g1 := bkeepL hbel.out hb g1
      replace g2 := bkeepL hbel.out hb g2
      replace g3 := bkeepL hbel.out hb g3
      replace g4 := bkeepL hbel.out hb g4
      replace g5 := bkeepL hbel.out hb g5
      replace g6 := bkeepL hbel.out hb g6
      replace g7 := bkeepL hbel.out hb g7
      replace g8 := bkeepL hbel.out hb g8
      replace g9 := bkeepL hbel.out hb g9
      replace g10 := bkeepL hbel.out hb g10
      replace g11 := bkeepL hbel.out hb g11
      have HF := hide (rounds_succ l k (by rw [← Hn.out]; exact hlt))
      obtain ⟨x, hx⟩ : ∃ x, x = evAt l k := ⟨_, rfl⟩
      rw [← hx] at g0 g1 g2 g3 g4 g5 g6 g7 g8 g9 g10 g11 HF
      clear hx
      obtain ⟨rs0, hrs0⟩ : ∃ rs0, rs0 = roundsL (l.take k) := ⟨_, rfl⟩
      rw [← hrs0] at hrds hRL HF
      have hRA := hide (hRL.out.add x)
      clear hrs0
      obtain ⟨vals0, i1, i2, i3, i4⟩ := hrds.out.ex
      obtain ⟨A4, c4, rfl, hc4⟩ := own_cap i2
      have hrk := hRL.out.1
      cases q1 : (x.k == 1) with
      | true =>
        have HT := hide (show x.k = 1 by simpa using q1)
        have HI := hide (show rndAdd rs0 x = (rs0 ++ [[]]).set rs0.length ((rs0 ++ [[]]).getD rs0.length [] ++ [x]) by unfold rndAdd; rw [if_pos HT.out, getD_snoc_eq, set_snoc]; rfl)
        obtain ⟨m, hm⟩ : ∃ m, rs0.length = m := ⟨_, rfl⟩
        have J2 := hide (show ((wr.alloc (.cells (evV x) 28)).alloc (.cells #[.slice none 0 0] 22)).ownsRow w.heap.size 22 1 (.slice A4 rs0.length c4) rs0.length vals0 from (i2.alloc _).alloc _)
        have J2m := J2
        rw [hm] at J2m hrk ⊢
        have J3 := hide (show ∀ i, i < rs0.length → ((wr.alloc (.cells (evV x) 28)).alloc (.cells #[.slice none 0 0] 22)).ownsRow w.heap.size 28 12 (vals0.getD i undef) (rs0.getD i []).length (flat encEv (rs0.getD i [])) from fun i hi => ((i3 i hi).alloc _).alloc _)
        have J1 := hide i1
        have J4 := hide i4
        have JB := hide ((hbel.out.alloc hbel.out.size (.cells (evV x) 28)).alloc (by have := hbel.out.size; simp; omega) (.cells #[.slice none 0 0] 22))
        have JE := hide ((Blk.new wr 28 (evV x)).alloc (.cells #[.slice none 0 0] 22))
        have hrd : Hid (Rd ((wr.alloc (.cells (evV x) 28)).alloc (.cells #[.slice none 0 0] 22)) NoBlk (some ⟨wr.heap.size + 1, 0, none⟩) [.slice none 0 0]) := hide (rd_blkN (Blk.new' (by simp)) (fun h => h))
        have hsz : w.heap.size ≤ ((wr.alloc (.cells (evV x) 28)).alloc (.cells #[.slice none 0 0] 22)).heap.size := by have := hbel.out.size; simp; omega
        have hone : Hid (∀ u ∈ [Value.slice none 0 0], u.oneCell' = true) := hide (by intro u hu; simp at hu; subst hu; rfl)
        clear i1 i2 i3 i4
        go_wp2_with (first
          | (at_builtin; refine wpList_append_rd ((wr.alloc (.cells (evV x) 28)).alloc (.cells #[.slice none 0 0] 22)) rfl (.tmp 16) (.tmp 17) _ rfl w.heap.size 22 is _ 1 24 Try.underlying48 his hsz0 hsz1 hsz2 rfl (by omega) (.slice A4 m c4) m vals0 rfl J2m.out NoBlk (some ⟨wr.heap.size + 1, 0, none⟩) 1 1 [.slice none 0 0] rfl hrd.out rfl hone.out (by simp only [maxLen]; omega) (by omega) hsz ?_; intro v2 wq hown2 hgr _; have hform := own_some hown2 (by omega); obtain ⟨g, cap, rfl, hcap⟩ := hform; have hR := hide (RdsAt.more J1.out J2.out J3.out J4.out (by rw [hm]; exact hgr) (by rw [hm]; exact hown2)); have hE := hide (JE.out.grown J2m.out (by decide) hgr); have hbq := hide (JB.out.grown hgr hsz (fun j hj => by have := own_ge J2m.out j hj; omega)); have hgb := hide (show w.heap.size ≤ g from own_ge hown2 g rfl); clear hown2 hgr))
        obtain ⟨rs, hrs⟩ : ∃ rs, rs = rs0 ++ [[]] := ⟨_, rfl⟩
        have hlen : Hid (rs.length = m + 1) := hide (by rw [hrs, List.length_append, hm]; rfl)
        have hrl : Hid (∀ i, (rs.getD i []).length ≤ k) := hide (by rw [hrs]; exact hRL.out.more)
        rw [← hrs, hm] at HI
        rw [← hrs] at hR
        have Hm := hide hm
        clear hrs hm
        obtain ⟨vals, h1, h2, h3, h4⟩ := hR.out.ex
        rw [hlen.out] at h2
        have h2' : ((wq.drew).alloc (.cells #[.int .i64 x.k, .int .i64 x.id, .int .i64 x.n, .int .i64 x.tick, .string x.s, .int .i64 x.err, .int .i64 x.st.tick, .int .i64 x.st.at_, .int .i64 x.st.what, .int .i64 x.st.arm, .int .i64 x.st.n, .int .i64 x.st.status] 28)).ownsRow w.heap.size 22 1 (.slice (some ⟨g, 0, none⟩) (m + 1) cap) (m + 1) vals := World.ownsRow.alloc (w := wq.drew) h2 _
        have h3' : ∀ i, i < rs.length → ((wq.drew).alloc (.cells #[.int .i64 x.k, .int .i64 x.id, .int .i64 x.n, .int .i64 x.tick, .string x.s, .int .i64 x.err, .int .i64 x.st.tick, .int .i64 x.st.at_, .int .i64 x.st.what, .int .i64 x.st.arm, .int .i64 x.st.n, .int .i64 x.st.status] 28)).ownsRow w.heap.size 28 12 (vals.getD i undef) (rs.getD i []).length (flat encEv (rs.getD i [])) := fun i hi => World.ownsRow.alloc (w := wq.drew) (h3 i hi) _
        have hvm : vals[m]? = some (vals.getD m undef) := by have := hlen.out; simp [List.getD, show m < vals.length by omega]
        obtain ⟨vl, hvl⟩ : ∃ vl, vl = vals.getD m undef := ⟨_, rfl⟩
        have own1 := h3' m (by rw [hlen.out]; omega)
        rw [← hvl] at hvm own1
        obtain ⟨A5, c5, hvf, hc5⟩ := own_cap own1
        have y30 : wq.cell? ⟨g, m, none⟩ = some vl := by rw [h2.cellAt m (by omega)]; exact hvm
        have y31 : ((wq.drew).alloc (.cells #[.int .i64 x.k, .int .i64 x.id, .int .i64 x.n, .int .i64 x.tick, .string x.s, .int .i64 x.err, .int .i64 x.st.tick, .int .i64 x.st.at_, .int .i64 x.st.what, .int .i64 x.st.arm, .int .i64 x.st.n, .int .i64 x.st.status] 28)).cell? ⟨g, m, none⟩ = some vl := by rw [h2'.cellAt m (by omega)]; exact hvm
        obtain ⟨lr, hlr⟩ : ∃ lr, lr = rs.getD m [] := ⟨_, rfl⟩
        have hll := hide (show lr.length ≤ k by rw [hlr]; exact hrl.out m)
        have hll' := hll.out
        rw [← hlr] at own1 hvf
        rw [hvf] at y30 y31
        have y32 : (wq.alloc (.cells #[.int .i64 x.k, .int .i64 x.id, .int .i64 x.n, .int .i64 x.tick, .string x.s, .int .i64 x.err, .int .i64 x.st.tick, .int .i64 x.st.at_, .int .i64 x.st.what, .int .i64 x.st.arm, .int .i64 x.st.n, .int .i64 x.st.status] 28)).cell? ⟨g, m, none⟩ = some (.slice A5 lr.length c5) := y31
        have hgl : g < wq.heap.size := World.block_lt_of_cell? _ _ y30
        have hg1 : ¬ g = wq.heap.size := by omega
        have hg2 : ¬ wq.heap.size = g := by omega
        have Own1 := hide own1
        have H2 := hide h2'
        have H3 := hide h3'
        have H4 := hide h4
        have H1 := hide h1
        have HVL := hide hvl
        have HVF := hide hvf
        have HLR := hide hlr
        have k1 : (0 : Int) ≤ (m : Int) := by omega
        have k2 : (m : Int) < (m : Int) + 1 := by omega
        have hwm : IntKind.i64.wrap (m : Int) = m := IntWalk.i64_in _ (by omega)
        have hev := hE.out.twelve
        obtain ⟨e0, e1, e2, e3, e4, e5, e6, e7, e8, e9, e10, e11⟩ := hev
        clear h1 h2 h3 h4 h2' h3' hvl hvf hlr own1 hvm
        go_region_law (refine step_append_rd ((wq.drew).alloc (.cells #[.int .i64 x.k, .int .i64 x.id, .int .i64 x.n, .int .i64 x.tick, .string x.s, .int .i64 x.err, .int .i64 x.st.tick, .int .i64 x.st.at_, .int .i64 x.st.what, .int .i64 x.st.arm, .int .i64 x.st.n, .int .i64 x.st.status] 28)) rfl (.tmp 30) (.tmp 32) _ rfl w.heap.size 28 ie _ 12 104 Try.underlying22 hie hez0 hez1 hez2 rfl (by omega) (.slice A5 lr.length c5) lr.length (flat encEv lr) rfl (by rw [← HVF.out]; exact Own1.out) NoBlk (some ⟨wq.heap.size, 0, none⟩) 1 1 (encEv x) rfl (rd_blkN (Blk.new wq.drew _ _) (fun h => h)) rfl (encEv_one x) (by simp only [maxLen]; omega) (by omega) (by have := hbq.out.size; simp; omega) ?_; intro v3 w3 hown3 hgr3 hat3; have hform := own_cap hown3; obtain ⟨A6, c6, rfl, _⟩ := hform; rw [← HVF.out] at hgr3 hat3; have o2 := own_grown H2.out Own1.out (by decide) hgr3; have c30 := o2.cellAt m (by omega); have f30 := o2.frozenAt m; have hvm3 : vals[m]? = some vl := (by rw [HVL.out]; have := hlen.out; have := H1.out; simp [List.getD, show m < vals.length by omega]); rw [hvm3, HVF.out] at c30; have RG := hide (RdsAt.grow (x := x) hlen.out H1.out H2.out H3.out H4.out (by rw [← HVL.out]; exact hgr3) (by rw [← HLR.out]; exact hown3) (by rw [← HVL.out]; exact hat3)); have BG := hide (Below.setCell (p := ⟨g, m, none⟩) (((below_drew' hbq.out).alloc hbq.out.size (.cells #[.int .i64 x.k, .int .i64 x.id, .int .i64 x.n, .int .i64 x.tick, .string x.s, .int .i64 x.err, .int .i64 x.st.tick, .int .i64 x.st.at_, .int .i64 x.st.what, .int .i64 x.st.arm, .int .i64 x.st.n, .int .i64 x.st.status] 28)).grown hgr3 (by have := hbq.out.size; simp; omega) (fun j hj => by have := own_ge Own1.out j hj; omega)) hgb.out (.slice A6 (lr.length + 1) c6)); clear hgr3 hat3 o2 hvm3 hown3)
        all_goals
          clear hwm
          go_wp2_with fail
          go_roundw
          case rel => exact ⟨k + 1, by omega, by go_num, hide (by rw [HF.out, HI.out, HLR.out.symm]; have := RG.out; rw [← HLR.out] at this; exact this), hide (by rw [HF.out]; exact hRA.out), BG⟩
          case measure => simp [intOf]; omega
      | false =>
        have HT := hide (show ¬ x.k = 1 by simpa using q1)
        by_cases h0 : rs0.length = 0
        · have HI := hide (show rndAdd rs0 x = rs0 by unfold rndAdd; rw [if_neg HT.out, if_pos h0])
          rw [h0]
          clear i1 i2 i3 i4
          go_wp2_with fail
          go_roundw
          case rel => exact ⟨k + 1, by omega, by go_num, hide (by rw [HF.out, HI.out]; rw [h0] at hrds; exact hrds.out.only ((Only.refl NoBlk _).alloc _)), hide (by rw [HF.out]; exact hRA.out), hide (hbel.out.alloc hbel.out.size _)⟩
          case measure => simp [intOf]; omega
        · obtain ⟨m, hm⟩ : ∃ m, rs0.length = m + 1 := ⟨rs0.length - 1, by omega⟩
          have HI := hide (show rndAdd rs0 x = rs0.set m (rs0.getD m [] ++ [x]) by unfold rndAdd; rw [if_neg HT.out, if_neg h0, hm]; rfl)
          obtain ⟨g, cap, hva, hcap⟩ := own_some i2 (by omega)
          injection hva with hva _ hvc
          replace hvc := hvc.symm
          subst hva
          subst hvc
          have hgb := hide (show w.heap.size ≤ g from own_ge i2 g rfl)
          have hR := hide (hrds.out.only ((Only.refl NoBlk _).alloc (.cells #[.int .i64 x.k, .int .i64 x.id, .int .i64 x.n, .int .i64 x.tick, .string x.s, .int .i64 x.err, .int .i64 x.st.tick, .int .i64 x.st.at_, .int .i64 x.st.what, .int .i64 x.st.arm, .int .i64 x.st.n, .int .i64 x.st.status] 28)))
          have hE := hide (show Blk (wr.alloc (.cells #[.int .i64 x.k, .int .i64 x.id, .int .i64 x.n, .int .i64 x.tick, .string x.s, .int .i64 x.err, .int .i64 x.st.tick, .int .i64 x.st.at_, .int .i64 x.st.what, .int .i64 x.st.arm, .int .i64 x.st.n, .int .i64 x.st.status] 28)) wr.heap.size 28 (evV x) from Blk.new wr _ _)
          have hbq := hide (hbel.out.alloc hbel.out.size (.cells #[.int .i64 x.k, .int .i64 x.id, .int .i64 x.n, .int .i64 x.tick, .string x.s, .int .i64 x.err, .int .i64 x.st.tick, .int .i64 x.st.at_, .int .i64 x.st.what, .int .i64 x.st.arm, .int .i64 x.st.n, .int .i64 x.st.status] 28))
          have hlen := hide hm
          have hrl := hide hRL.out.2
          obtain ⟨rs, hrs⟩ : ∃ rs, rs = rs0 := ⟨_, rfl⟩
          rw [hm] at hR hrk hc4 hcap ⊢
          rw [← hrs] at hR hlen hrl HI HF hRA
          clear i1 i2 i3 i4 hm h0 hrs hrds
          go_wp2_with fail
          generalize wr.alloc (.cells #[.int .i64 x.k, .int .i64 x.id, .int .i64 x.n, .int .i64 x.tick, .string x.s, .int .i64 x.err, .int .i64 x.st.tick, .int .i64 x.st.at_, .int .i64 x.st.what, .int .i64 x.st.arm, .int .i64 x.st.n, .int .i64 x.st.status] 28) = wq at hR hE hbq ⊢
          obtain ⟨vals, h1, h2, h3, h4⟩ := hR.out.ex
          rw [hlen.out] at h2
          have h2' : ((wq.drew).alloc (.cells #[.int .i64 x.k, .int .i64 x.id, .int .i64 x.n, .int .i64 x.tick, .string x.s, .int .i64 x.err, .int .i64 x.st.tick, .int .i64 x.st.at_, .int .i64 x.st.what, .int .i64 x.st.arm, .int .i64 x.st.n, .int .i64 x.st.status] 28)).ownsRow w.heap.size 22 1 (.slice (some ⟨g, 0, none⟩) (m + 1) cap) (m + 1) vals := World.ownsRow.alloc (w := wq.drew) h2 _
          have h3' : ∀ i, i < rs.length → ((wq.drew).alloc (.cells #[.int .i64 x.k, .int .i64 x.id, .int .i64 x.n, .int .i64 x.tick, .string x.s, .int .i64 x.err, .int .i64 x.st.tick, .int .i64 x.st.at_, .int .i64 x.st.what, .int .i64 x.st.arm, .int .i64 x.st.n, .int .i64 x.st.status] 28)).ownsRow w.heap.size 28 12 (vals.getD i undef) (rs.getD i []).length (flat encEv (rs.getD i [])) := fun i hi => World.ownsRow.alloc (w := wq.drew) (h3 i hi) _
          have hvm : vals[m]? = some (vals.getD m undef) := by have := hlen.out; simp [List.getD, show m < vals.length by omega]
          obtain ⟨vl, hvl⟩ : ∃ vl, vl = vals.getD m undef := ⟨_, rfl⟩
          have own1 := h3' m (by rw [hlen.out]; omega)
          rw [← hvl] at hvm own1
          obtain ⟨A5, c5, hvf, hc5⟩ := own_cap own1
          have y30 : wq.cell? ⟨g, m, none⟩ = some vl := by rw [h2.cellAt m (by omega)]; exact hvm
          have y31 : ((wq.drew).alloc (.cells #[.int .i64 x.k, .int .i64 x.id, .int .i64 x.n, .int .i64 x.tick, .string x.s, .int .i64 x.err, .int .i64 x.st.tick, .int .i64 x.st.at_, .int .i64 x.st.what, .int .i64 x.st.arm, .int .i64 x.st.n, .int .i64 x.st.status] 28)).cell? ⟨g, m, none⟩ = some vl := by rw [h2'.cellAt m (by omega)]; exact hvm
          obtain ⟨lr, hlr⟩ : ∃ lr, lr = rs.getD m [] := ⟨_, rfl⟩
          have hll := hide (show lr.length ≤ k by rw [hlr]; exact hrl.out m)
          have hll' := hll.out
          rw [← hlr] at own1 hvf
          rw [hvf] at y30 y31
          have y32 : (wq.alloc (.cells #[.int .i64 x.k, .int .i64 x.id, .int .i64 x.n, .int .i64 x.tick, .string x.s, .int .i64 x.err, .int .i64 x.st.tick, .int .i64 x.st.at_, .int .i64 x.st.what, .int .i64 x.st.arm, .int .i64 x.st.n, .int .i64 x.st.status] 28)).cell? ⟨g, m, none⟩ = some (.slice A5 lr.length c5) := y31
          have hgl : g < wq.heap.size := World.block_lt_of_cell? _ _ y30
          have hg1 : ¬ g = wq.heap.size := by omega
          have hg2 : ¬ wq.heap.size = g := by omega
          have Own1 := hide own1
          have H2 := hide h2'
          have H3 := hide h3'
          have H4 := hide h4
          have H1 := hide h1
          have HVL := hide hvl
          have HVF := hide hvf
          have HLR := hide hlr
          have k1 : (0 : Int) ≤ (m : Int) := by omega
          have k2 : (m : Int) < (m : Int) + 1 := by omega
          have hwm : IntKind.i64.wrap (m : Int) = m := IntWalk.i64_in _ (by omega)
          have hev := hE.out.twelve
          obtain ⟨e0, e1, e2, e3, e4, e5, e6, e7, e8, e9, e10, e11⟩ := hev
          clear h1 h2 h3 h4 h2' h3' hvl hvf hlr own1 hvm
          go_region_law (refine step_append_rd ((wq.drew).alloc (.cells #[.int .i64 x.k, .int .i64 x.id, .int .i64 x.n, .int .i64 x.tick, .string x.s, .int .i64 x.err, .int .i64 x.st.tick, .int .i64 x.st.at_, .int .i64 x.st.what, .int .i64 x.st.arm, .int .i64 x.st.n, .int .i64 x.st.status] 28)) rfl (.tmp 30) (.tmp 32) _ rfl w.heap.size 28 ie _ 12 104 Try.underlying22 hie hez0 hez1 hez2 rfl (by omega) (.slice A5 lr.length c5) lr.length (flat encEv lr) rfl (by rw [← HVF.out]; exact Own1.out) NoBlk (some ⟨wq.heap.size, 0, none⟩) 1 1 (encEv x) rfl (rd_blkN (Blk.new wq.drew _ _) (fun h => h)) rfl (encEv_one x) (by simp only [maxLen]; omega) (by omega) (by have := hbq.out.size; simp; omega) ?_; intro v3 w3 hown3 hgr3 hat3; have hform := own_cap hown3; obtain ⟨A6, c6, rfl, _⟩ := hform; rw [← HVF.out] at hgr3 hat3; have o2 := own_grown H2.out Own1.out (by decide) hgr3; have c30 := o2.cellAt m (by omega); have f30 := o2.frozenAt m; have hvm3 : vals[m]? = some vl := (by rw [HVL.out]; have := hlen.out; have := H1.out; simp [List.getD, show m < vals.length by omega]); rw [hvm3, HVF.out] at c30; have RG := hide (RdsAt.grow (x := x) hlen.out H1.out H2.out H3.out H4.out (by rw [← HVL.out]; exact hgr3) (by rw [← HLR.out]; exact hown3) (by rw [← HVL.out]; exact hat3)); have BG := hide (Below.setCell (p := ⟨g, m, none⟩) (((below_drew' hbq.out).alloc hbq.out.size (.cells #[.int .i64 x.k, .int .i64 x.id, .int .i64 x.n, .int .i64 x.tick, .string x.s, .int .i64 x.err, .int .i64 x.st.tick, .int .i64 x.st.at_, .int .i64 x.st.what, .int .i64 x.st.arm, .int .i64 x.st.n, .int .i64 x.st.status] 28)).grown hgr3 (by have := hbq.out.size; simp; omega) (fun j hj => by have := own_ge Own1.out j hj; omega)) hgb.out (.slice A6 (lr.length + 1) c6)); clear hgr3 hat3 o2 hvm3 hown3)
          all_goals
            clear hwm
            go_wp2_with fail
            go_roundw
            case rel => exact ⟨k + 1, by omega, by go_num, hide (by rw [HF.out, HI.out, HLR.out.symm]; have := RG.out; rw [← HLR.out] at this; exact this), hide (by rw [HF.out]; exact hRA.out), BG⟩
            case measure => simp [intOf]; omega
    · have hke : k = n := by omega
      subst hke
      have hd : decide ((k : Int) < k) = false := by simp
      have hd2 : decide (k < k) = false := by simp
      have ht : l.take k = l := List.take_of_length_le (by rw [← Hn.out]; omega)
      rw [ht] at hrds
      obtain ⟨vals, h1, h2, h3, h4⟩ := hrds.out.ex
      obtain ⟨A1, c1, rfl, hcap⟩ := own_cap h2
      have HR := hide (show Rd wr NoBlk A1 vals from Rd.of_own h2 (fun k h => h.elim))
      have HV := hide (show ∀ i, i < (roundsL l).length → ∃ A2 c2, vals[i]? = some (.slice A2 ((roundsL l).getD i []).length c2) ∧ Rd wr NoBlk A2 (flat encEv ((roundsL l).getD i [])) ∧ ((roundsL l).getD i []).length ≤ c2 from fun i hi => by
        obtain ⟨A2, c2, e2, hc2⟩ := own_cap (h3 i hi)
        have h3' := h3 i hi
        rw [e2] at h3'
        exact ⟨A2, c2, by rw [← e2]; simp [List.getD, show i < vals.length by omega], Rd.of_own h3' (fun k h => h.elim), hc2⟩)
      have H1 := hide h1
      clear ht hlt h1 h2 h3 h4 hrds hRL
      go_wp2_with fail
      go_ret
      exact ⟨hbel.out, A1, c1, vals, rfl, H1.out, HR.out, HV.out⟩
end Go.Proofs.Ythnjebpbokmemaa
