/- The walk of ProjOther. Conditions: those of each theorem. -/
import Derived.Test.YthnjebpbokmemaaLives31
namespace Go.Proofs.Ythnjebpbokmemaa
open Go.RowKit
set_option linter.unusedVariables false

theorem filt_succ (p : Ev → Bool) (l : List Ev) (k : Nat) (h : k < l.length) : (l.take (k + 1)).filter p = (l.take k).filter p ++ (if p (evAt l k) = true then [evAt l k] else []) := by
  have e : evAt l k = l[k] := by simp [evAt, List.getD, h]
  rw [List.take_succ_eq_append_getElem h, List.filter_append, e]
  cases hp : p l[k] <;> simp [hp]
theorem life_small {id : Int} {l : List Ev} {f : LifeM} (h : lifeGo id 0 l = some f) (hx : ∀ x ∈ l, x.s.size ≤ 100) : f.ins.length ≤ l.length ∧ f.steps.length ≤ l.length := by
  rcases open_or id l with ⟨_, hl⟩ | ⟨k, hk, _, hl⟩
  · rw [h] at hl; cases hl
  · rw [h] at hl
    injection hl with hl
    have := small_fold id (evAt l k).n (clockOf 0 (l.take k)) (l.drop (k + 1)) (fun x hx' => hx x (List.mem_of_mem_drop hx')) (l.drop (k + 1)).length (Nat.le_refl _)
    rw [List.take_length, ← hl] at this
    have h1 := this.ins; have h2 := this.steps
    rw [List.length_drop] at h1 h2
    exact ⟨by omega, by omega⟩
theorem few_texts (l : List Ev) (m : Nat) : ∀ x ∈ fewL l m, x.s.size ≤ 100 := by
  intro x hx
  unfold fewL at hx
  obtain ⟨y, _, rfl⟩ := List.mem_map.1 hx
  show (cutS y.s 24).size ≤ 100
  rw [cutS_size]; omega
theorem few_le (l : List Ev) (m : Nat) : (fewL l m).length ≤ m := by
  unfold fewL
  rw [List.length_map, List.length_take]; omega
set_option maxRecDepth 100000 in
set_option maxHeartbeats 4000000 in
theorem ProjOther_walk (A : Option Addr) (c : Nat) (l : List Ev) (id : Int) (w : World) (hr : Rd w NoBlk A (flat encEv l)) (hn : l.length ≤ maxLen) :
    Calls Try.prog 3 #[.slice A l.length c, .int .i64 id] w fun e w' => e = .returned (.bool true) ∧ Below w.heap.size w w' := by
  have hfew := Few_c NoBlk A c l 16 w hr hn (by omega) (fun k h => h.elim)
  have HF := hide hfew
  clear hfew hr hn
  go_enter Try.func3, Try.ntmps3
  go_wp2_with fail
  refine HF.out.mono ?_
  rintro e w1 ⟨A1, c1, rfl, rd1, hb1, hcap⟩
  have htx := few_texts l 16
  have hle := few_le l 16
  obtain ⟨F, hF⟩ : ∃ F, F = fewL l 16 := ⟨_, rfl⟩
  rw [← hF] at rd1 hcap htx hle ⊢
  have Rd1 := hide rd1
  have HTx := hide htx
  have Hc := hide (fun k hk => ev_cells rd1 k hk)
  obtain ⟨i0, hi, hz0, hz1, hz2⟩ := info_parts Try.infoEv
  obtain ⟨n, hnl⟩ : ∃ n, n = F.length := ⟨_, rfl⟩
  rw [← hnl] at hcap hle ⊢
  have Hn := hide hnl
  have HB1 := hide hb1
  clear hnl hF rd1 htx hb1 HF
  go_wp2_with fail
  go_loopw [5, 6] (fun v i wr => ∃ k m : Nat, k ≤ n ∧ m ≤ k ∧ i = .int .i64 k ∧ Hid (((F.take k).filter (ownOf id)).length = m) ∧ wr.ownsRow w1.heap.size 28 12 v m (flat encEv ((F.take k).filter (ownOf id))) ∧ Below w1.heap.size w1 wr) (fun _ i _ => n - (intOf i).toNat)
  case atStart => exact ⟨0, 0, Nat.zero_le _, Nat.zero_le _, rfl, hide rfl, own_empty (Nat.le_refl _), below_alloc _ _⟩
  case round =>
    obtain ⟨k, m, hk, hm, rfl, hml, hown, hbel⟩ := hrel
    by_cases hlt : k < n
    · obtain ⟨b, o, rfl, _, hb, g0, g1, g2, g3, g4, g5, g6, g7, g8, g9, g10, g11⟩ := Hc.out k (by rw [← Hn.out]; exact hlt)
      replace g0 := bkeepL hbel hb g0
      replace g1 := bkeepL hbel hb g1
      replace g2 := bkeepL hbel hb g2
      replace g3 := bkeepL hbel hb g3
      replace g4 := bkeepL hbel hb g4
      replace g5 := bkeepL hbel hb g5
      replace g6 := bkeepL hbel hb g6
      replace g7 := bkeepL hbel hb g7
      replace g8 := bkeepL hbel hb g8
      replace g9 := bkeepL hbel hb g9
      replace g10 := bkeepL hbel hb g10
      replace g11 := bkeepL hbel hb g11
      have HFl := hide (filt_succ (ownOf id) F k (by rw [← Hn.out]; exact hlt))
      obtain ⟨x, hx⟩ : ∃ x, x = evAt F k := ⟨_, rfl⟩
      rw [← hx] at g0 g1 g2 g3 g4 g5 g6 g7 g8 g9 g10 g11 HFl
      clear hx
      have hrd : Rd (wr.alloc (.cells (encEv x).toArray 28)) NoBlk (some ⟨wr.heap.size, 0, none⟩) (encEv x) := rd_blkN (Blk.new _ _ _) (fun h => h)
      have Hrd := hide hrd
      have Hone := hide (encEv_one x)
      clear hrd
      cases q1 : (x.id == id) with
      | true =>
          have HT := hide (show ownOf id x = true by simp [ownOf]; exact Or.inl (by simpa using q1))
          go_wp2_with (first
            | (at_builtin; refine wpList_append_rd _ rfl (.tmp 43) (.tmp 48) _ rfl w1.heap.size 28 i0 _ 12 104 Try.underlying22 hi hz0 hz1 hz2 rfl (by omega) _ m _ rfl (hown.alloc _) NoBlk (some ⟨wr.heap.size, 0, none⟩) 1 1 (encEv x) rfl Hrd.out rfl Hone.out (by simp only [maxLen]; omega) (by omega) (by have := hbel.size; simp; omega) ?_; intro v2 w2 hown2 hgr _; have Own2 := hide hown2; have Gr := hide hgr; clear hown2 hgr))
          go_roundw
          case rel =>
            refine ⟨k + 1, m + 1, by omega, by omega, by go_num, ?_, ?_, ?_⟩
            · rw [HFl.out, HT.out, if_pos rfl, List.length_append, hml.out]; rfl
            · rw [HFl.out, HT.out, if_pos rfl, flat_append]
              have := Own2.out
              simpa [flat] using this
            · exact (hbel.alloc hbel.size _).grown Gr.out (by have := hbel.size; simp; omega) (fun j hj => by have := own_ge hown j hj; omega)
          case measure => simp [intOf]; omega
      | false =>
        cases q2 : (x.k == 1) with
        | true =>
          have HT := hide (show ownOf id x = true by simp [ownOf]; exact Or.inr (Or.inl (by simpa using q2)))
          go_wp2_with (first
            | (at_builtin; refine wpList_append_rd _ rfl (.tmp 43) (.tmp 48) _ rfl w1.heap.size 28 i0 _ 12 104 Try.underlying22 hi hz0 hz1 hz2 rfl (by omega) _ m _ rfl (hown.alloc _) NoBlk (some ⟨wr.heap.size, 0, none⟩) 1 1 (encEv x) rfl Hrd.out rfl Hone.out (by simp only [maxLen]; omega) (by omega) (by have := hbel.size; simp; omega) ?_; intro v2 w2 hown2 hgr _; have Own2 := hide hown2; have Gr := hide hgr; clear hown2 hgr))
          go_roundw
          case rel =>
            refine ⟨k + 1, m + 1, by omega, by omega, by go_num, ?_, ?_, ?_⟩
            · rw [HFl.out, HT.out, if_pos rfl, List.length_append, hml.out]; rfl
            · rw [HFl.out, HT.out, if_pos rfl, flat_append]
              have := Own2.out
              simpa [flat] using this
            · exact (hbel.alloc hbel.size _).grown Gr.out (by have := hbel.size; simp; omega) (fun j hj => by have := own_ge hown j hj; omega)
          case measure => simp [intOf]; omega
        | false =>
          cases q3 : (x.k == 7) with
          | true =>
            have HT := hide (show ownOf id x = true by simp [ownOf]; exact Or.inr (Or.inr (by simpa using q3)))
            go_wp2_with (first
              | (at_builtin; refine wpList_append_rd _ rfl (.tmp 43) (.tmp 48) _ rfl w1.heap.size 28 i0 _ 12 104 Try.underlying22 hi hz0 hz1 hz2 rfl (by omega) _ m _ rfl (hown.alloc _) NoBlk (some ⟨wr.heap.size, 0, none⟩) 1 1 (encEv x) rfl Hrd.out rfl Hone.out (by simp only [maxLen]; omega) (by omega) (by have := hbel.size; simp; omega) ?_; intro v2 w2 hown2 hgr _; have Own2 := hide hown2; have Gr := hide hgr; clear hown2 hgr))
            go_roundw
            case rel =>
              refine ⟨k + 1, m + 1, by omega, by omega, by go_num, ?_, ?_, ?_⟩
              · rw [HFl.out, HT.out, if_pos rfl, List.length_append, hml.out]; rfl
              · rw [HFl.out, HT.out, if_pos rfl, flat_append]
                have := Own2.out
                simpa [flat] using this
              · exact (hbel.alloc hbel.size _).grown Gr.out (by have := hbel.size; simp; omega) (fun j hj => by have := own_ge hown j hj; omega)
            case measure => simp [intOf]; omega
          | false =>
            have HT := hide (show ownOf id x = false by
              have h1 : x.id ≠ id := by simpa using q1
              have h2 : x.k ≠ 1 := by simpa using q2
              have h3 : x.k ≠ 7 := by simpa using q3
              simp [ownOf, h1, h2, h3])
            go_wp2_with fail
            go_roundw
            case rel =>
              refine ⟨k + 1, m, by omega, by omega, by go_num, ?_, ?_, hbel⟩
              · rw [HFl.out, HT.out]; simp; exact hml.out
              · rw [HFl.out, HT.out]; simpa using hown
            case measure => simp [intOf]; omega
    · have hke : k = n := by omega
      subst hke
      have hd : decide ((k : Int) < k) = false := by simp
      have hd2 : decide (k < k) = false := by simp
      have ht : F.take k = F := List.take_of_length_le (by rw [← Hn.out]; omega)
      rw [ht] at hml hown
      obtain ⟨A3, c3, rfl, hcap3⟩ := own_cap hown
      have rd3 : Rd wr NoBlk A3 (flat encEv (F.filter (ownOf id))) := Rd.of_own hown (fun k h => h.elim)
      have ho := Of_c NoBlk A1 c1 F id wr (Rd1.out.below hbel) (by rw [← Hn.out]; omega) HTx.out (by rw [← Hn.out]; exact hcap) (fun k h => h.elim)
      have hg : lifeGo id 0 (F.filter (ownOf id)) = lifeGo id 0 F := lifeGo_own id F 0
      have ho3 := fun (w' : World) (hr : Rd w' NoBlk A3 (flat encEv (F.filter (ownOf id)))) => Of_c NoBlk A3 c3 (F.filter (ownOf id)) id w' hr (by rw [hml.out]; omega) (fun x hx => HTx.out x (List.mem_filter.1 hx).1) (by rw [hml.out]; exact hcap3) (fun k h => h.elim)
      have hsm : ∀ f, lifeGo id 0 F = some f → f.ins.length ≤ 100000 ∧ f.steps.length ≤ 100000 := fun f h => by
        have := life_small h HTx.out
        have := Hn.out
        omega
      rw [hml.out, hg] at ho3
      rw [← Hn.out] at ho
      have HO := hide ho
      have HO3 := hide ho3
      have R3 := hide rd3
      have HSm := hide hsm
      have HBl := hide hbel
      clear ht ho ho3 rd3 hg hown hbel hlt hsm
      go_wp2_with fail
      refine HO.out.mono ?_
      rintro e w2 ⟨hb2, h2⟩
      cases hl : lifeGo id 0 F with
      | none =>
        rw [hl] at h2
        obtain ⟨r, rfl, rfl⟩ := h2
        obtain ⟨W2, hW2⟩ : ∃ W2, W2 = w2.alloc (.cells #[.int .i64 0, .int .i64 0, .int .i64 0, .slice none 0 0, .slice none 0 0, .string ⟨#[]⟩, .string ⟨#[]⟩, .bool false, .int .i64 0] 32) := ⟨_, rfl⟩
        have lW2 : Below w2.heap.size w2 W2 := by rw [hW2]; exact below_alloc _ _
        have b2 : Blk W2 w2.heap.size 32 #[.int .i64 0, .int .i64 0, .int .i64 0, .slice none 0 0, .slice none 0 0, .string ⟨#[]⟩, .string ⟨#[]⟩, .bool false, .int .i64 0] := by rw [hW2]; exact Blk.new _ _ _
        have hq := HO3.out W2 ((R3.out.below hb2).below lW2)
        rw [hl] at hq
        have HQ := hide hq
        have HB2 := hide hb2
        have LW2 := hide lW2
        have HW2 := hide hW2
        have B2 := hide b2
        clear hq hb2 lW2 hW2 b2 hl
        go_wp2_with fail
        rw [← HW2.out]
        refine HQ.out.mono ?_
        rintro e w3 ⟨hb3, h3⟩
        obtain ⟨r, rfl, rfl⟩ := h3
        obtain ⟨W3, hW3⟩ : ∃ W3, W3 = w3.alloc (.cells #[.int .i64 0, .int .i64 0, .int .i64 0, .slice none 0 0, .slice none 0 0, .string ⟨#[]⟩, .string ⟨#[]⟩, .bool false, .int .i64 0] 32) := ⟨_, rfl⟩
        have lW3 : Below w3.heap.size w3 W3 := by rw [hW3]; exact below_alloc _ _
        obtain ⟨⟨z0, z1, z2, z3, z4, z5, z6, z7, z8⟩, -⟩ := ((B2.out.below hb3).below lW3).nine
        have b3 : Blk W3 w3.heap.size 32 #[.int .i64 0, .int .i64 0, .int .i64 0, .slice none 0 0, .slice none 0 0, .string ⟨#[]⟩, .string ⟨#[]⟩, .bool false, .int .i64 0] := by rw [hW3]; exact Blk.new _ _ _
        obtain ⟨⟨y0, y1, y2, y3, y4, y5, y6, y7, y8⟩, -⟩ := b3.nine
        clear b3
        have HW3 := hide hW3
        have tot := hide (below_trans (below_trans (below_trans (below_trans HB2.out LW2.out) hb3) lW3) (Below.refl _ _))
        have hsI := hide (fun (w : World) (hb : Below W3.heap.size W3 w) => sameIn_c NoBlk NoBlk none none 0 0 [] w Rd.nil Rd.nil (by decide))
        have hsS := hide (fun (w : World) (hb : Below W3.heap.size W3 w) => sameSteps_c NoBlk NoBlk none none 0 0 [] w Rd.nil Rd.nil (by decide))
        have hlW3 : W3.heap.size = w3.heap.size + 1 := by rw [hW3]; simp
        have hlt3 : w2.heap.size < W3.heap.size := by have := hb3.size; have := B2.out.lt; omega
        have Z4 := hide z4
        have Z5 := hide z5
        have Z6 := hide z6
        have Z8 := hide z8
        have Y4 := hide y4
        have Y5 := hide y5
        have Y6 := hide y6
        have Y8 := hide y8
        rw [hW3] at z1 z2 z3 z4 z5 z6 z8 y1 y2 y3 y4 y5 y6 y8
        clear hW3 lW3 hb3
        go_wp2_with (first
          | (go_at_call 10; rw [← HW3.out]; refine (hsI.out W3 (Below.refl _ _)).mono ?_; rintro e w4 ⟨rfl, hb4⟩; have p4 := bkeep hb4 Z4.out; have q4 := bkeep hb4 Y4.out; have HB4 := hide hb4; clear hb4)
          | (go_at_call 11; refine (hsS.out _ HB4.out).mono ?_; rintro e w5 ⟨rfl, hb5⟩; have p5 := bkeep hb5 (bkeep HB4.out Z5.out); have q5 := bkeep hb5 (bkeep HB4.out Y5.out); have p6 := bkeep hb5 (bkeep HB4.out Z6.out); have q6 := bkeep hb5 (bkeep HB4.out Y6.out); have p8 := bkeep hb5 (bkeep HB4.out Z8.out); have q8 := bkeep hb5 (bkeep HB4.out Y8.out); have HB5 := hide hb5; clear hb5)
          | (go_at_call 12; refine (lives31_c _).mono ?_; rintro e w6 ⟨rfl, hb6⟩; have HB6 := hide hb6; clear hb6))
        go_ret
        exact ⟨rfl, below_trans (below_trans (below_trans (below_trans (below_trans HB1.out HBl.out) tot.out) HB4.out) HB5.out) HB6.out⟩
      | some f =>
        rw [hl] at h2
        obtain ⟨A4, c4, A5, c5, r, rfl, rfl, rI, rS, hc4, hc5⟩ := h2
        obtain ⟨W2, hW2⟩ : ∃ W2, W2 = w2.alloc (.cells #[.int .i64 id, .int .i64 f.script, .int .i64 f.start, .slice A4 f.ins.length c4, .slice A5 f.steps.length c5, .string f.read, .string f.taken, .bool f.eof, .int .i64 f.status] 32) := ⟨_, rfl⟩
        have lW2 : Below w2.heap.size w2 W2 := by rw [hW2]; exact below_alloc _ _
        have b2 : Blk W2 w2.heap.size 32 #[.int .i64 id, .int .i64 f.script, .int .i64 f.start, .slice A4 f.ins.length c4, .slice A5 f.steps.length c5, .string f.read, .string f.taken, .bool f.eof, .int .i64 f.status] := by rw [hW2]; exact Blk.new _ _ _
        have hq := HO3.out W2 ((R3.out.below hb2).below lW2)
        rw [hl] at hq
        have HQ := hide hq
        have HB2 := hide hb2
        have LW2 := hide lW2
        have HW2 := hide hW2
        have B2 := hide b2
        have RI := hide rI
        have RS := hide rS
        have HM := hide (HSm.out f hl)
        clear rI rS
        clear hq hb2 lW2 hW2 b2 hl
        go_wp2_with fail
        rw [← HW2.out]
        refine HQ.out.mono ?_
        rintro e w3 ⟨hb3, h3⟩
        obtain ⟨A6, c6, A7, c7, r, rfl, rfl, rI6, rS7, hc6, hc7⟩ := h3
        obtain ⟨W3, hW3⟩ : ∃ W3, W3 = w3.alloc (.cells #[.int .i64 id, .int .i64 f.script, .int .i64 f.start, .slice A6 f.ins.length c6, .slice A7 f.steps.length c7, .string f.read, .string f.taken, .bool f.eof, .int .i64 f.status] 32) := ⟨_, rfl⟩
        have lW3 : Below w3.heap.size w3 W3 := by rw [hW3]; exact below_alloc _ _
        obtain ⟨⟨z0, z1, z2, z3, z4, z5, z6, z7, z8⟩, -⟩ := ((B2.out.below hb3).below lW3).nine
        have b3 : Blk W3 w3.heap.size 32 #[.int .i64 id, .int .i64 f.script, .int .i64 f.start, .slice A6 f.ins.length c6, .slice A7 f.steps.length c7, .string f.read, .string f.taken, .bool f.eof, .int .i64 f.status] := by rw [hW3]; exact Blk.new _ _ _
        obtain ⟨⟨y0, y1, y2, y3, y4, y5, y6, y7, y8⟩, -⟩ := b3.nine
        clear b3
        have HW3 := hide hW3
        have tot := hide (below_trans (below_trans (below_trans (below_trans HB2.out LW2.out) hb3) lW3) (Below.refl _ _))
        have hsI := hide (fun (w : World) (hb : Below W3.heap.size W3 w) => sameIn_c NoBlk NoBlk A4 A6 c4 c6 f.ins w (((((RI.out.below LW2.out).below hb3).below lW3)).below hb) ((rI6.below lW3).below hb) HM.out.1)
        have hsS := hide (fun (w : World) (hb : Below W3.heap.size W3 w) => sameSteps_c NoBlk NoBlk A5 A7 c5 c7 f.steps w (((((RS.out.below LW2.out).below hb3).below lW3)).below hb) ((rS7.below lW3).below hb) HM.out.2)
        clear rI6 rS7
        have hlW3 : W3.heap.size = w3.heap.size + 1 := by rw [hW3]; simp
        have hlt3 : w2.heap.size < W3.heap.size := by have := hb3.size; have := B2.out.lt; omega
        have Z4 := hide z4
        have Z5 := hide z5
        have Z6 := hide z6
        have Z8 := hide z8
        have Y4 := hide y4
        have Y5 := hide y5
        have Y6 := hide y6
        have Y8 := hide y8
        rw [hW3] at z1 z2 z3 z4 z5 z6 z8 y1 y2 y3 y4 y5 y6 y8
        clear hW3 lW3 hb3
        go_wp2_with (first
          | (go_at_call 10; rw [← HW3.out]; refine (hsI.out W3 (Below.refl _ _)).mono ?_; rintro e w4 ⟨rfl, hb4⟩; have p4 := bkeep hb4 Z4.out; have q4 := bkeep hb4 Y4.out; have HB4 := hide hb4; clear hb4)
          | (go_at_call 11; refine (hsS.out _ HB4.out).mono ?_; rintro e w5 ⟨rfl, hb5⟩; have p5 := bkeep hb5 (bkeep HB4.out Z5.out); have q5 := bkeep hb5 (bkeep HB4.out Y5.out); have p6 := bkeep hb5 (bkeep HB4.out Z6.out); have q6 := bkeep hb5 (bkeep HB4.out Y6.out); have p8 := bkeep hb5 (bkeep HB4.out Z8.out); have q8 := bkeep hb5 (bkeep HB4.out Y8.out); have HB5 := hide hb5; clear hb5)
          | (go_at_call 12; refine (lives31_c _).mono ?_; rintro e w6 ⟨rfl, hb6⟩; have HB6 := hide hb6; clear hb6))
        go_ret
        exact ⟨rfl, below_trans (below_trans (below_trans (below_trans (below_trans HB1.out HBl.out) tot.out) HB4.out) HB5.out) HB6.out⟩
end Go.Proofs.Ythnjebpbokmemaa
