/- Parts of a chain of lemmas: Ids31, Ids31b, Uniq. Conditions: those of each theorem. -/
import Derived.Test.YtdmdohjdmnmabaaGreatQw18
import Derived.Shelf.Slices.In.SortNone
namespace Go.Proofs.YtdmdohjdmnmabaaGreat
open Go.RowKit Go.Sort
set_option linter.unusedVariables false

/-- the numbers of all who were opened, in their order -/
def openedL (l : List Ev) : List Int := (l.filter (fun x => decide (x.k = 2))).map (·.id)
theorem Tryz.infoI3 : (Tryz.prog.info? 3).map (fun i => (i.zero, i.size, i.bytes)) = some (some (.int .i64 0), 1, 8) := by kernel_rfl
theorem opened_succ (l : List Ev) (k : Nat) (h : k < l.length) : openedL (l.take (k + 1)) = openedL (l.take k) ++ (if (evAt l k).k = 2 then [(evAt l k).id] else []) := by
 have e : evAt l k = l[k] := by simp [evAt, List.getD, h]
 unfold openedL
 rw [List.take_succ_eq_append_getElem h, List.filter_append, List.map_append, e]
 by_cases hp : l[k].k = 2 <;> simp [hp]
theorem opened_le (l : List Ev) : (openedL l).length ≤ l.length := by
 unfold openedL
 rw [List.length_map]; exact List.length_filter_le _ _
theorem flat_encI (zs : List Int) : flat encI zs = zs.map (Value.int .i64) := by
 induction zs with
 | nil => rfl
 | cons a l ih => rw [flat_cons, ih]; rfl
theorem compact_nil : Lib.compact (([] : List Int).mergeSort fun x y => decide (x ≤ y)) = [] := by
 rw [List.mergeSort_nil]; rfl
theorem compact_le (S : List Int) : (Lib.compact S).length ≤ S.length := by
 unfold Lib.compact Lib.compactUpTo
 rw [List.length_map]
 exact Nat.le_trans (List.length_filter_le _ _) (by simp)
set_option maxRecDepth 100000 in
set_option maxHeartbeats 1600000 in
theorem ids_c (M : Nat → Prop) (A : Option Addr) (c : Nat) (l : List Ev) (w : World) (hr : Rd w M A (flat encEv l)) (hn : l.length ≤ 100000) (hM : ∀ k, M k → k < w.heap.size) :
 Calls Tryz.prog 107 #[.slice A l.length c] w fun e w' => Below w.heap.size w w' ∧ ∃ A1 c1, e = .returned (.slice A1 (Lib.compact ((openedL l).mergeSort fun x y => decide (x ≤ y))).length c1) ∧ Rd w' M A1 (flat encI (Lib.compact ((openedL l).mergeSort fun x y => decide (x ≤ y)))) := by
 have Hc := hide (fun k hk => ev_cells hr k hk)
 have HM := hide hM
 obtain ⟨i0, hi, hz0, hz1, hz2⟩ := info_parts Tryz.infoI3
 obtain ⟨n, hnl⟩ : ∃ n, n = l.length := ⟨_, rfl⟩
 rw [← hnl] at hn ⊢
 have Hn := hide hnl
 clear hr hM hnl
 go_enter Tryz.func107, Tryz.ntmps107
 go_wp2_with fail
 go_loopw [3, 8] (fun v i wr => ∃ k m : Nat, k ≤ n ∧ m ≤ k ∧ i = .int .i64 k ∧ Hid ((openedL (l.take k)).length = m) ∧ wr.ownsRow w.heap.size 3 1 v m (flat encI (openedL (l.take k))) ∧ Below w.heap.size w wr) (fun _ i _ => n - (intOf i).toNat)
 case atStart => exact ⟨0, 0, Nat.zero_le _, Nat.zero_le _, rfl, hide rfl, ⟨rfl, Or.inl ⟨rfl, rfl⟩⟩, Below.refl _ _⟩
 case round =>
  obtain ⟨k, m, hk, hm, rfl, hml, hown, hbel⟩ := hrel
  by_cases hlt : k < n
  ·obtain ⟨b, o, rfl, _, hb, g0, g1, g2, g3, g4, g5, g6, g7, g8, g9, g10, g11⟩ := Hc.out k (by rw [← Hn.out]; exact hlt)
   replace g0 := bkeepL hbel hb g0
   replace g1 := bkeepL hbel hb g1
   replace g2 := bkeepL hbel hb g2
   replace g3 := bkeepL hbel hb g3
   replace g4 := bkeepL hbel hb g4
   replace g5 := bkeepL hbel hb g5
   replace g6 := bkeepL hbel hb g6
   replace g7 := bkeepL hbel hb g7
   replace g8 := bkeepL hbel hb g8
   replace g9 := bkeepL hbel hb g9
   replace g10 := bkeepL hbel hb g10
   replace g11 := bkeepL hbel hb g11
   have HF := hide (opened_succ l k (by rw [← Hn.out]; exact hlt))
   obtain ⟨x, hx⟩ : ∃ x, x = evAt l k := ⟨_, rfl⟩
   rw [← hx] at g0 g1 g2 g3 g4 g5 g6 g7 g8 g9 g10 g11 HF
   clear hx
   cases q1 : (x.k == 2) with
   | true =>
    have HT := hide (show x.k = 2 by simpa using q1)
    have hrd : Rd ((wr.alloc (.cells (evV x) 82)).alloc (.cells (encI x.id).toArray 3)) NoBlk (some ⟨wr.heap.size + 1, 0, none⟩) (encI x.id) := rd_blkN (Blk.new' (by simp)) (fun h => h)
    have Hrd := hide hrd
    have Hone := hide (show ∀ u ∈ encI x.id, u.oneCell' = true by intro u hu; simp at hu; subst hu; rfl)
    clear hrd
    go_wp2_with (first
     | (at_builtin; refine wpList_append_rd _ rfl (.tmp 15) (.tmp 18) _ rfl w.heap.size 3 i0 _ 1 8 Tryz.underlying86 hi hz0 hz1 hz2 rfl (by omega) _ m _ rfl ((hown.alloc _).alloc _) NoBlk (some ⟨wr.heap.size + 1, 0, none⟩) 1 1 (encI x.id) rfl Hrd.out rfl Hone.out (by simp only [maxLen]; omega) (by omega) (by have := hbel.size; simp; omega) ?_; intro v2 w2 hown2 hgr _; have Own2 := hide hown2; have Gr := hide hgr; clear hown2 hgr))
    go_roundw
    case rel =>
     refine ⟨k + 1, m + 1, by omega, by omega, by go_num, ?_, ?_, ?_⟩
     ·rw [HF.out, if_pos HT.out, List.length_append, hml.out]; rfl
     ·rw [HF.out, if_pos HT.out, flat_append]
      have := Own2.out
      simpa [flat] using this
     ·exact ((hbel.alloc hbel.size _).alloc (by have := hbel.size; simp; omega) _).grown Gr.out (by have := hbel.size; simp; omega) (fun j hj => by have := own_ge hown j hj; omega)
    case measure => simp [intOf]; omega
   | false =>
    have HT := hide (show ¬ x.k = 2 by simpa using q1)
    go_wp2_with fail
    go_roundw
    case rel =>
     refine ⟨k + 1, m, by omega, by omega, by go_num, ?_, ?_, hbel.alloc hbel.size _⟩
     ·rw [HF.out, if_neg HT.out, List.append_nil]; exact hml
     ·rw [HF.out, if_neg HT.out]; simpa using hown.alloc _
    case measure => simp [intOf]; omega
  ·have hke : k = n := by omega
   subst hke
   have hd : decide ((k : Int) < k) = false := by simp
   have hd2 : decide (k < k) = false := by simp
   have ht : l.take k = l := List.take_of_length_le (by rw [← Hn.out]; omega)
   rw [ht] at hml hown
   obtain ⟨A1, c1, rfl, hcap⟩ := own_cap hown
   clear ht hlt
   by_cases hm0 : m = 0
   ·subst hm0
    have H1 := hide (Any.slices_Sort_int_none Tryz.laysSort A1 c1 wr)
    have H2 := hide (Any.slices_Compact_int_empty Tryz.laysCompact A1 c1 wr)
    have HE := hide (List.eq_nil_of_length_eq_zero hml.out)
    clear hown
    go_wp2_with fail
    refine H1.out.mono ?_
    rintro e w2 ⟨rfl, rfl⟩
    go_wp2_with fail
    refine H2.out.mono ?_
    rintro e w3 ⟨rfl, rfl⟩
    go_wp2_with fail
    go_ret
    exact ⟨hbel, A1, c1, by rw [HE.out, compact_nil]; rfl, by rw [HE.out, compact_nil]; exact Rd.nil⟩
   ·rcases hown.2 with ⟨hv, hn0⟩ | ⟨g, cap, cur, hv, hb, hh, -⟩
    ·exact absurd hn0 hm0
    ·have hA : A1 = some ⟨g, 0, none⟩ := by injection hv
     have hcc : c1 = cap := by injection hv
     subst hcc
     subst hA
     clear hv
     have hblk : Blk wr g 3 cur := hh
     obtain ⟨b, o, hA, _, _, hcell⟩ := (Rd.of_own (M := NoBlk) hown (fun k h => h.elim)).at_ (j := 0) (by rw [flat_encI, List.length_map, hml.out]; omega)
     injection hA with hA
     injection hA with e1 e2 _
     subst e1; subst e2
     have hH : Holds (Value.int .i64) wr g 0 (openedL l).toArray := by
      intro j hj
      have hj' : j < (openedL l).length := by simpa using hj
      refine ⟨?_, hblk.frozen _⟩
      rw [hcell j (by rw [flat_encI, List.length_map]; exact hj'), flat_encI]
      simp [hj']
     obtain ⟨S, hS⟩ : ∃ S, S = (openedL l).mergeSort fun x y => decide (x ≤ y) := ⟨_, rfl⟩
     have hSl : S.length = m := by rw [hS, List.length_mergeSort]; exact hml.out
     have h1 := sortI_c g 0 c1 (openedL l) wr hH hblk.lt (by have := hml.out; omega)
     rw [← hS, hml.out] at h1
     have HSe := hide hS
     have H1 := hide h1
     have HS := hide hSl
     have HH := hide hH
     have HL := hide hblk.lt
     have HMl := hide hml.out
     clear hown hh hblk hcell h1 hSl hH hS hml
     go_wp2_with fail
     refine H1.out.mono ?_
     rintro e w2 ⟨rfl, q, os, rfl⟩
     have hH2 : Holds (Value.int .i64) (grow (putRow (Value.int .i64) (Sort.ahead wr q) g 0 S.toArray) os) g 0 S.toArray := holds_grow _ _ _ _ _ _ (by simpa using HL.out) (holds_putRow _ _ _ _ _ _ (holds_ahead _ _ _ _ _ _ HH.out) (by simp [HS.out, HMl.out]))
     have b2 : Below w.heap.size w (grow (putRow (Value.int .i64) (Sort.ahead wr q) g 0 S.toArray) os) := below_grow (below_putRow (below_ahead hbel q) hb _) (by have := hbel.size; simpa using this) os
     have hl2 : g < (grow (putRow (Value.int .i64) (Sort.ahead wr q) g 0 S.toArray) os).heap.size := by have := HL.out; simp [grow]; omega
     generalize grow (putRow (Value.int .i64) (Sort.ahead wr q) g 0 S.toArray) os = w2 at hH2 b2 hl2 ⊢
     have h2 := compactI_c g 0 c1 S w2 hH2 (by rw [HS.out]; omega) (by rw [HS.out]; exact hcap)
     rw [HS.out] at h2
     have H2 := hide h2
     have HH2 := hide hH2
     have HB2 := hide b2
     have HL2 := hide hl2
     clear h2 hH2 b2 hl2
     go_wp2_with fail
     refine H2.out.mono ?_
     rintro e w3 ⟨rfl, q2, rfl⟩
     go_wp2_with fail
     go_ret
     rw [← HSe.out]
     refine ⟨below_putRow (below_ahead HB2.out _) hb _, some ⟨g, 0, none⟩, c1, rfl, Or.inr ⟨g, 0, rfl, (fun h => by have := HM.out g h; omega), by simpa using HL2.out, fun j hj => ?_⟩⟩
     have hj' : j < (Lib.compact S).length := by rw [flat_encI, List.length_map] at hj; exact hj
     have hle := compact_le S
     rw [cell?_putRow _ _ _ _ S.toArray _ (holds_ahead _ _ _ _ _ _ HH2.out) (by have := HS.out; simp; omega) j (by have := HS.out; simp; omega), flat_encI]
     simp [hj', List.getElem?_append_left hj']
end Go.Proofs.YtdmdohjdmnmabaaGreat
namespace Go.Proofs.YtdmdohjdmnmabaaGreat
open Go.RowKit Go.Sort
set_option linter.unusedVariables false
theorem Ids_c (M : Nat → Prop) (A : Option Addr) (c : Nat) (l : List Ev) (w : World) (hr : Rd w M A (flat encEv l)) (hn : l.length ≤ 100000) (hM : ∀ k, M k → k < w.heap.size) :
 Calls Tryz.prog 83 #[.slice A l.length c] w fun e w' => Below w.heap.size w w' ∧ ∃ A1 c1, e = .returned (.slice A1 (Lib.compact ((openedL l).mergeSort fun x y => decide (x ≤ y))).length c1) ∧ Rd w' M A1 (flat encI (Lib.compact ((openedL l).mergeSort fun x y => decide (x ≤ y)))) := by
 have HI := hide (ids_c M A c l w hr hn hM)
 clear hr hM
 go_enter Tryz.func83, Tryz.ntmps83
 go_wp2_with fail
 refine HI.out.mono ?_
 rintro e w2 ⟨hb, A1, c1, rfl, hr2⟩
 go_wp2_with fail
 go_ret
 exact ⟨hb, A1, c1, rfl, hr2⟩
end Go.Proofs.YtdmdohjdmnmabaaGreat
namespace Go.Proofs.YtdmdohjdmnmabaaGreat
open Go.RowKit
set_option linter.unusedVariables false

theorem strict_eq : ∀ (a b : List Int), a.Pairwise (· < ·) → b.Pairwise (· < ·) → (∀ y, y ∈ a ↔ y ∈ b) → a = b := by
 intro a
 induction a with
 | nil =>
  intro b _ _ h
  cases b with
  | nil => rfl
  | cons x r => exact absurd ((h x).2 (by simp)) (by simp)
 | cons x r ih =>
  intro b ha hb h
  cases b with
  | nil => exact absurd ((h x).1 (by simp)) (by simp)
  | cons y s =>
   rw [List.pairwise_cons] at ha hb
   have hxy : x = y := by
    have h1 : x ∈ y :: s := (h x).1 (by simp)
    have h2 : y ∈ x :: r := (h y).2 (by simp)
    rcases List.mem_cons.1 h1 with h1 | h1
    ·exact h1
    ·rcases List.mem_cons.1 h2 with h2 | h2
     ·exact h2.symm
     ·have := hb.1 x h1; have := ha.1 y h2; omega
   subst hxy
   congr 1
   refine ih s ha.2 hb.2 (fun z => ⟨fun hz => ?_, fun hz => ?_⟩)
   ·rcases List.mem_cons.1 ((h z).1 (List.mem_cons_of_mem _ hz)) with e | e
    ·have := ha.1 z hz; omega
    ·exact e
   ·rcases List.mem_cons.1 ((h z).2 (List.mem_cons_of_mem _ hz)) with e | e
    ·have := hb.1 z hz; omega
    ·exact e
theorem compUp (d : Array Int) (hs : ∀ i j, i ≤ j → j < d.size → d[i]! ≤ d[j]!) : ∀ m, m ≤ d.size → (Lib.compactUpTo d m).Pairwise (· < ·) ∧ (∀ y, y ∈ Lib.compactUpTo d m ↔ ∃ j, j < m ∧ d[j]! = y) := by
 intro m
 induction m with
 | zero => intro _; simp [Lib.compactUpTo]
 | succ m ih =>
  intro hm
  obtain ⟨h1, h2⟩ := ih (by omega)
  rw [Lib.compactUpTo_succ]
  by_cases hk : Lib.keeps d m = true
  ·rw [if_pos hk]
   constructor
   ·rw [List.pairwise_append]
    refine ⟨h1, List.pairwise_singleton _ _, fun a ha b hb => ?_⟩
    simp at hb; subst hb
    obtain ⟨j, hj, rfl⟩ := (h2 a).1 ha
    have hle := hs j (m - 1) (by omega) (by omega)
    have hle2 := hs (m - 1) m (by omega) (by omega)
    have hne : d[m]! ≠ d[m - 1]! := by
     unfold Lib.keeps at hk
     rcases of_decide_eq_true hk with h | h
     ·omega
     ·exact h
    omega
   ·intro y
    rw [List.mem_append, h2 y]
    constructor
    ·rintro (⟨j, hj, e⟩ | h)
     ·exact ⟨j, by omega, e⟩
     ·simp at h; exact ⟨m, by omega, h.symm⟩
    ·rintro ⟨j, hj, e⟩
     by_cases hjm : j = m
     ·subst hjm; exact Or.inr (by simp [e])
     ·exact Or.inl ⟨j, by omega, e⟩
  ·rw [if_neg hk, List.append_nil]
   refine ⟨h1, fun y => ?_⟩
   rw [h2 y]
   constructor
   ·rintro ⟨j, hj, e⟩; exact ⟨j, by omega, e⟩
   ·rintro ⟨j, hj, e⟩
    by_cases hjm : j = m
    ·subst hjm
     have hk' : ¬ (j = 0 ∨ d[j]! ≠ d[j - 1]!) := fun h => hk (decide_eq_true h)
     refine ⟨j - 1, by omega, ?_⟩
     rw [← e]
     by_cases h0 : d[j]! = d[j - 1]!
     ·exact h0.symm
     ·exact absurd (Or.inr h0) hk'
    ·exact ⟨j, by omega, e⟩
/-- sorted, each once: what Sort and Compact leave -/
def uniq (l : List Int) : List Int := Lib.compact (l.mergeSort fun x y => decide (x ≤ y))
theorem uniq_spec (l : List Int) : (uniq l).Pairwise (· < ·) ∧ ∀ y, y ∈ uniq l ↔ y ∈ l := by
 have hp : (l.mergeSort fun x y => decide (x ≤ y)).Pairwise (fun x y => decide (x ≤ y) = true) := List.pairwise_mergeSort (fun a b c h1 h2 => by simp at *; omega) (fun a b => by simp; omega) l
 obtain ⟨S, hS⟩ : ∃ S, S = l.mergeSort fun x y => decide (x ≤ y) := ⟨_, rfl⟩
 have hm : ∀ y, y ∈ S ↔ y ∈ l := fun y => by rw [hS]; exact List.mem_mergeSort
 unfold uniq
 rw [← hS] at hp ⊢
 have hs : ∀ i j, i ≤ j → j < S.toArray.size → S.toArray[i]! ≤ S.toArray[j]! := by
  intro i j hij hj
  have hj' : j < S.length := by simpa using hj
  have hi' : i < S.length := by omega
  by_cases he : i = j
  ·subst he; omega
  ·have := List.pairwise_iff_getElem.1 hp i j hi' hj' (by omega)
   simpa [hi', hj'] using this
 obtain ⟨h1, h2⟩ := compUp S.toArray hs S.length (by simp)
 refine ⟨h1, fun y => ?_⟩
 rw [← hm y]
 refine (h2 y).trans ⟨?_, ?_⟩
 ·rintro ⟨j, hj, e⟩
  rw [← e]
  simp [hj]
 ·intro h
  obtain ⟨j, hj, e⟩ := List.getElem_of_mem h
  exact ⟨j, hj, by simp [hj, e]⟩
/-- one put where it belongs, if it is not there -/
def insU (x : Int) : List Int → List Int
 | [] => [x]
 | a :: r => if a < x then a :: insU x r else if a = x then a :: r else x :: a :: r
theorem insU_mem (x : Int) (s : List Int) : ∀ y, y ∈ insU x s ↔ y = x ∨ y ∈ s := by
 induction s with
 | nil => intro y; simp [insU]
 | cons a r ih =>
  intro y
  unfold insU
  by_cases h1 : a < x
  ·rw [if_pos h1, List.mem_cons, ih y, List.mem_cons]
   constructor
   ·rintro (h | h | h) <;> simp [h]
   ·rintro (h | h | h) <;> simp [h]
  ·rw [if_neg h1]
   by_cases h2 : a = x
   ·rw [if_pos h2]; subst h2; simp
   ·rw [if_neg h2]; simp
theorem insU_strict (x : Int) (s : List Int) (h : s.Pairwise (· < ·)) : (insU x s).Pairwise (· < ·) := by
 induction s with
 | nil => simp [insU]
 | cons a r ih =>
  rw [List.pairwise_cons] at h
  unfold insU
  by_cases h1 : a < x
  ·rw [if_pos h1, List.pairwise_cons]
   refine ⟨fun y hy => ?_, ih h.2⟩
   rcases (insU_mem x r y).1 hy with e | e
   ·omega
   ·exact h.1 y e
  ·rw [if_neg h1]
   by_cases h2 : a = x
   ·rw [if_pos h2, List.pairwise_cons]; exact h
   ·rw [if_neg h2, List.pairwise_cons, List.pairwise_cons]
    refine ⟨fun y hy => ?_, h⟩
    rcases List.mem_cons.1 hy with e | e
    ·omega
    ·have := h.1 y e; omega
theorem insU_all (l : List Int) : ∀ (s : List Int), s.Pairwise (· < ·) → (l.foldl (fun s x => insU x s) s).Pairwise (· < ·) ∧ ∀ y, y ∈ l.foldl (fun s x => insU x s) s ↔ y ∈ l ∨ y ∈ s := by
 induction l with
 | nil => intro s h; exact ⟨h, fun y => by simp⟩
 | cons x r ih =>
  intro s h
  obtain ⟨h1, h2⟩ := ih (insU x s) (insU_strict x s h)
  refine ⟨h1, fun y => ?_⟩
  rw [List.foldl_cons, h2 y, insU_mem, List.mem_cons]
  constructor
  ·rintro (h | h | h) <;> simp [h]
  ·rintro ((h | h) | h) <;> simp [h]
theorem uniq_ins (l : List Int) : l.foldl (fun s x => insU x s) [] = uniq l := by
 obtain ⟨h1, h2⟩ := insU_all l [] List.Pairwise.nil
 obtain ⟨h3, h4⟩ := uniq_spec l
 exact strict_eq _ _ h1 h3 (fun y => by rw [h2 y, h4 y]; simp)
end Go.Proofs.YtdmdohjdmnmabaaGreat
