/- proj.ids: all who were opened, sorted, each once. Conditions: those of each theorem. UNDER WAY: the end (Sort, Compact) is lacking. -/
import Derived.Test.YtgfogoplmokilaaSort31
import Derived.Shelf.Slices.In.SortNone
namespace Go.Proofs.Ytgfogoplmokilaa
open Go.RowKit Go.Sort
set_option linter.unusedVariables false

/-- the numbers of all who were opened, in their order -/
def openedL (l : List Ev) : List Int := (l.filter (fun x => decide (x.k = 2))).map (·.id)
theorem Try.infoI3 : (Try.prog.info? 3).map (fun i => (i.zero, i.size, i.bytes)) = some (some (.int .i64 0), 1, 8) := by kernel_rfl
theorem opened_succ (l : List Ev) (k : Nat) (h : k < l.length) : openedL (l.take (k + 1)) = openedL (l.take k) ++ (if (evAt l k).k = 2 then [(evAt l k).id] else []) := by
  have e : evAt l k = l[k] := by simp [evAt, List.getD, h]
  unfold openedL
  rw [List.take_succ_eq_append_getElem h, List.filter_append, List.map_append, e]
  by_cases hp : l[k].k = 2 <;> simp [hp]
theorem opened_le (l : List Ev) : (openedL l).length ≤ l.length := by
  unfold openedL
  rw [List.length_map]; exact List.length_filter_le _ _
theorem flat_encI (zs : List Int) : flat encI zs = zs.map (Value.int .i64) := by
  induction zs with
  | nil => rfl
  | cons a l ih => rw [flat_cons, ih]; rfl
theorem compact_nil : Lib.compact (([] : List Int).mergeSort fun x y => decide (x ≤ y)) = [] := by
  rw [List.mergeSort_nil]; rfl
theorem compact_le (S : List Int) : (Lib.compact S).length ≤ S.length := by
  unfold Lib.compact Lib.compactUpTo
  rw [List.length_map]
  exact Nat.le_trans (List.length_filter_le _ _) (by simp)
set_option maxRecDepth 100000 in
set_option maxHeartbeats 1600000 in
theorem ids_c (M : Nat → Prop) (A : Option Addr) (c : Nat) (l : List Ev) (w : World) (hr : Rd w M A (flat encEv l)) (hn : l.length ≤ 100000) (hM : ∀ k, M k → k < w.heap.size) :
    Calls Try.prog 37 #[.slice A l.length c] w fun e w' => Below w.heap.size w w' ∧ ∃ A1 c1, e = .returned (.slice A1 (Lib.compact ((openedL l).mergeSort fun x y => decide (x ≤ y))).length c1) ∧ Rd w' M A1 (flat encI (Lib.compact ((openedL l).mergeSort fun x y => decide (x ≤ y)))) := by
  have Hc := hide (fun k hk => ev_cells hr k hk)
  have HM := hide hM
  obtain ⟨i0, hi, hz0, hz1, hz2⟩ := info_parts Try.infoI3
  obtain ⟨n, hnl⟩ : ∃ n, n = l.length := ⟨_, rfl⟩
  rw [← hnl] at hn ⊢
  have Hn := hide hnl
  clear hr hM hnl
  go_enter Try.func37, Try.ntmps37
  go_wp2_with fail
  go_loopw [3, 8] (fun v i wr => ∃ k m : Nat, k ≤ n ∧ m ≤ k ∧ i = .int .i64 k ∧ Hid ((openedL (l.take k)).length = m) ∧ wr.ownsRow w.heap.size 3 1 v m (flat encI (openedL (l.take k))) ∧ Below w.heap.size w wr) (fun _ i _ => n - (intOf i).toNat)
  case atStart => exact ⟨0, 0, Nat.zero_le _, Nat.zero_le _, rfl, hide rfl, ⟨rfl, Or.inl ⟨rfl, rfl⟩⟩, Below.refl _ _⟩
  case round =>
    obtain ⟨k, m, hk, hm, rfl, hml, hown, hbel⟩ := hrel
    by_cases hlt : k < n
    · obtain ⟨b, o, rfl, _, hb, g0, g1, g2, g3, g4, g5, g6, g7, g8, g9, g10, g11⟩ := Hc.out k (by rw [← Hn.out]; exact hlt)
      replace g0 := bkeepL hbel hb g0
      replace g1 := bkeepL hbel hb g1
      replace g2 := bkeepL hbel hb g2
      replace g3 := bkeepL hbel hb g3
      replace g4 := bkeepL hbel hb g4
      replace g5 := bkeepL hbel hb g5
      replace g6 := bkeepL hbel hb g6
      replace g7 := bkeepL hbel hb g7
      replace g8 := bkeepL hbel hb g8
      replace g9 := bkeepL hbel hb g9
      replace g10 := bkeepL hbel hb g10
      replace g11 := bkeepL hbel hb g11
      have HF := hide (opened_succ l k (by rw [← Hn.out]; exact hlt))
      obtain ⟨x, hx⟩ : ∃ x, x = evAt l k := ⟨_, rfl⟩
      rw [← hx] at g0 g1 g2 g3 g4 g5 g6 g7 g8 g9 g10 g11 HF
      clear hx
      cases q1 : (x.k == 2) with
      | true =>
        have HT := hide (show x.k = 2 by simpa using q1)
        have hrd : Rd ((wr.alloc (.cells (evV x) 47)).alloc (.cells (encI x.id).toArray 3)) NoBlk (some ⟨wr.heap.size + 1, 0, none⟩) (encI x.id) := rd_blkN (Blk.new' (by simp)) (fun h => h)
        have Hrd := hide hrd
        have Hone := hide (show ∀ u ∈ encI x.id, u.oneCell' = true by intro u hu; simp at hu; subst hu; rfl)
        clear hrd
        go_wp2_with (first
          | (at_builtin; refine wpList_append_rd _ rfl (.tmp 15) (.tmp 18) _ rfl w.heap.size 3 i0 _ 1 8 Try.underlying37 hi hz0 hz1 hz2 rfl (by omega) _ m _ rfl ((hown.alloc _).alloc _) NoBlk (some ⟨wr.heap.size + 1, 0, none⟩) 1 1 (encI x.id) rfl Hrd.out rfl Hone.out (by simp only [maxLen]; omega) (by omega) (by have := hbel.size; simp; omega) ?_; intro v2 w2 hown2 hgr _; have Own2 := hide hown2; have Gr := hide hgr; clear hown2 hgr))
        go_roundw
        case rel =>
          refine ⟨k + 1, m + 1, by omega, by omega, by go_num, ?_, ?_, ?_⟩
          · rw [HF.out, if_pos HT.out, List.length_append, hml.out]; rfl
          · rw [HF.out, if_pos HT.out, flat_append]
            have := Own2.out
            simpa [flat] using this
          · exact ((hbel.alloc hbel.size _).alloc (by have := hbel.size; simp; omega) _).grown Gr.out (by have := hbel.size; simp; omega) (fun j hj => by have := own_ge hown j hj; omega)
        case measure => simp [intOf]; omega
      | false =>
        have HT := hide (show ¬ x.k = 2 by simpa using q1)
        go_wp2_with fail
        go_roundw
        case rel =>
          refine ⟨k + 1, m, by omega, by omega, by go_num, ?_, ?_, hbel.alloc hbel.size _⟩
          · rw [HF.out, if_neg HT.out, List.append_nil]; exact hml
          · rw [HF.out, if_neg HT.out]; simpa using hown.alloc _
        case measure => simp [intOf]; omega
    · have hke : k = n := by omega
      subst hke
      have hd : decide ((k : Int) < k) = false := by simp
      have hd2 : decide (k < k) = false := by simp
      have ht : l.take k = l := List.take_of_length_le (by rw [← Hn.out]; omega)
      rw [ht] at hml hown
      obtain ⟨A1, c1, rfl, hcap⟩ := own_cap hown
      clear ht hlt
      by_cases hm0 : m = 0
      · subst hm0
        have H1 := hide (Any.slices_Sort_int_none Try.laysSort A1 c1 wr)
        have H2 := hide (Any.slices_Compact_int_empty Try.laysCompact A1 c1 wr)
        have HE := hide (List.eq_nil_of_length_eq_zero hml.out)
        clear hown
        go_wp2_with fail
        refine H1.out.mono ?_
        rintro e w2 ⟨rfl, rfl⟩
        go_wp2_with fail
        refine H2.out.mono ?_
        rintro e w3 ⟨rfl, rfl⟩
        go_wp2_with fail
        go_ret
        exact ⟨hbel, A1, c1, by rw [HE.out, compact_nil]; rfl, by rw [HE.out, compact_nil]; exact Rd.nil⟩
      · rcases hown.2 with ⟨hv, hn0⟩ | ⟨g, cap, cur, hv, hb, hh, -⟩
        · exact absurd hn0 hm0
        · have hA : A1 = some ⟨g, 0, none⟩ := by injection hv
          have hcc : c1 = cap := by injection hv
          subst hcc
          subst hA
          clear hv
          have hblk : Blk wr g 3 cur := hh
          obtain ⟨b, o, hA, _, _, hcell⟩ := (Rd.of_own (M := NoBlk) hown (fun k h => h.elim)).at_ (j := 0) (by rw [flat_encI, List.length_map, hml.out]; omega)
          injection hA with hA
          injection hA with e1 e2 _
          subst e1; subst e2
          have hH : Holds (Value.int .i64) wr g 0 (openedL l).toArray := by
            intro j hj
            have hj' : j < (openedL l).length := by simpa using hj
            refine ⟨?_, hblk.frozen _⟩
            rw [hcell j (by rw [flat_encI, List.length_map]; exact hj'), flat_encI]
            simp [hj']
          obtain ⟨S, hS⟩ : ∃ S, S = (openedL l).mergeSort fun x y => decide (x ≤ y) := ⟨_, rfl⟩
          have hSl : S.length = m := by rw [hS, List.length_mergeSort]; exact hml.out
          have h1 := sortI_c g 0 c1 (openedL l) wr hH hblk.lt (by have := hml.out; omega)
          rw [← hS, hml.out] at h1
          have HSe := hide hS
          have H1 := hide h1
          have HS := hide hSl
          have HH := hide hH
          have HL := hide hblk.lt
          have HMl := hide hml.out
          clear hown hh hblk hcell h1 hSl hH hS hml
          go_wp2_with fail
          refine H1.out.mono ?_
          rintro e w2 ⟨rfl, q, os, rfl⟩
          have hH2 : Holds (Value.int .i64) (grow (putRow (Value.int .i64) (Sort.ahead wr q) g 0 S.toArray) os) g 0 S.toArray := holds_grow _ _ _ _ _ _ (by simpa using HL.out) (holds_putRow _ _ _ _ _ _ (holds_ahead _ _ _ _ _ _ HH.out) (by simp [HS.out, HMl.out]))
          have b2 : Below w.heap.size w (grow (putRow (Value.int .i64) (Sort.ahead wr q) g 0 S.toArray) os) := below_grow (below_putRow (below_ahead hbel q) hb _) (by have := hbel.size; simpa using this) os
          have hl2 : g < (grow (putRow (Value.int .i64) (Sort.ahead wr q) g 0 S.toArray) os).heap.size := by have := HL.out; simp [grow]; omega
          generalize grow (putRow (Value.int .i64) (Sort.ahead wr q) g 0 S.toArray) os = w2 at hH2 b2 hl2 ⊢
          have h2 := compactI_c g 0 c1 S w2 hH2 (by rw [HS.out]; omega) (by rw [HS.out]; exact hcap)
          rw [HS.out] at h2
          have H2 := hide h2
          have HH2 := hide hH2
          have HB2 := hide b2
          have HL2 := hide hl2
          clear h2 hH2 b2 hl2
          go_wp2_with fail
          refine H2.out.mono ?_
          rintro e w3 ⟨rfl, q2, rfl⟩
          go_wp2_with fail
          go_ret
          rw [← HSe.out]
          refine ⟨below_putRow (below_ahead HB2.out _) hb _, some ⟨g, 0, none⟩, c1, rfl, Or.inr ⟨g, 0, rfl, (fun h => by have := HM.out g h; omega), by simpa using HL2.out, fun j hj => ?_⟩⟩
          have hj' : j < (Lib.compact S).length := by rw [flat_encI, List.length_map] at hj; exact hj
          have hle := compact_le S
          rw [cell?_putRow _ _ _ _ S.toArray _ (holds_ahead _ _ _ _ _ _ HH2.out) (by have := HS.out; simp; omega) j (by have := HS.out; simp; omega), flat_encI]
          simp [hj', List.getElem?_append_left hj']
end Go.Proofs.Ytgfogoplmokilaa
