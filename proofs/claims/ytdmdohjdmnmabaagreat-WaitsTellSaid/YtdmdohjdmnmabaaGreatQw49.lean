/- Parts of a chain of lemmas: Wt4, Wt5. Conditions: those of each theorem. -/
import Derived.Test.YtdmdohjdmnmabaaGreatQw37
import Derived.Test.YtdmdohjdmnmabaaGreatQw25
import Derived.Test.YtdmdohjdmnmabaaGreatQw22
import Derived.Deep.RegionHeld3
namespace Go.Proofs.YtdmdohjdmnmabaaGreat
open Go.RowKit
set_option linter.unusedVariables false
set_option linter.unusedSimpArgs false
set_option maxRecDepth 100000 in
set_option maxHeartbeats 6400000 in
theorem WaitsOf_c (SA : Option Addr) (sc : Nat) (Ps : List PrV) (A : Option Addr) (c : Nat) (l : List Ev) (w : World) (hs : PrsRd w NoBlk SA Ps) (hsn : Ps.length ≤ maxLen) (hsz : ∀ v ∈ Ps, PrSz v) (hnn : ∀ v ∈ Ps, PrNn v) (hr : Rd w NoBlk A (flat encEv l)) (hn : l.length ≤ 1000) (hx : ∀ x ∈ l, x.s.size ≤ 100) (htk : TkOk l) (hlc : l.length ≤ c) :
 Calls Tryz.prog 24 #[.slice SA Ps.length sc, .slice A l.length c] w fun e w' => (∃ A1 c1, e = .returned (.slice A1 (waitsM Ps l).length c1) ∧ Rd w' NoBlk A1 (flat encWt (waitsM Ps l))) ∧ Only NoBlk w w' := by
 have HP := hide (waitsof_c SA sc Ps A c l w hs hsn hsz hnn hr hn hx htk hlc)
 obtain ⟨T, hT⟩ : ∃ T, T = waitsM Ps l := ⟨_, rfl⟩
 obtain ⟨n, hnl⟩ : ∃ n, n = l.length := ⟨_, rfl⟩
 obtain ⟨np, hnp⟩ : ∃ np, np = Ps.length := ⟨_, rfl⟩
 rw [← hT, ← hnl, ← hnp] at HP
 rw [← hT, ← hnl, ← hnp]
 clear hs hsn hsz hnn hr hn hx htk hlc hT hnl hnp
 go_enter Tryz.func24, Tryz.ntmps24
 go_wp2_with fail
 refine HP.out.mono ?_
 rintro e w2 ⟨⟨v, rfl, hown⟩, ho2⟩
 obtain ⟨A1, c1, rfl, _⟩ := own_cap hown
 have HR2 := hide (Rd.of_own (M := NoBlk) hown (fun _ h => h.elim))
 have HO2 := hide ho2
 clear hown ho2
 go_wp2_with fail
 go_ret
 exact ⟨⟨A1, c1, rfl, HR2.out⟩, HO2.out⟩
set_option maxRecDepth 100000 in
set_option maxHeartbeats 6400000 in
theorem wbound_c (s : SetM) (x : WtM) (each : Int) (w : World) (hg : goodB s = true) (hw0 : 0 ≤ waitS s ∧ waitS s ≤ 1000000000) (ha : x.until_ ≤ 9223372036854775807) (he : each ≤ 9223372036854775807) :
 Calls Tryz.prog 60 #[.agg (setV s), .agg #[.int .i64 x.id, .int .i64 x.op, .int .i64 x.from_, .int .i64 x.until_, .bool x.done, .int .i64 x.at_, .int .i64 x.what], .int .i64 each] w fun e w' => e = .returned (.int .i64 (untilS s x.until_ each)) ∧ Below w.heap.size w w' := by
 have HU := hide (fun w => Until_c s x.until_ each w hg hw0 ha he)
 obtain ⟨T, hT⟩ : ∃ T, T = untilS s x.until_ each := ⟨_, rfl⟩
 rw [← hT] at HU ⊢
 have HB := hide ((below_alloc w (.cells (setV s) 33)).alloc (by simp) (.cells #[.int .i64 x.id, .int .i64 x.op, .int .i64 x.from_, .int .i64 x.until_, .bool x.done, .int .i64 x.at_, .int .i64 x.what] 84))
 clear hg hw0 ha he hT
 go_enter Tryz.func60, Tryz.ntmps60
 go_wp2_with fail
 refine (HU.out _).mono ?_
 rintro e w2 ⟨rfl, hb2⟩
 have HB2 := hide (HB.out.trans (hb2.mono HB.out.size))
 clear hb2
 go_wp2_with fail
 go_ret
 exact ⟨rfl, HB2.out⟩
set_option maxRecDepth 100000 in
set_option maxHeartbeats 6400000 in
theorem wBound_c (s : SetM) (x : WtM) (each : Int) (w : World) (hg : goodB s = true) (hw0 : 0 ≤ waitS s ∧ waitS s ≤ 1000000000) (ha : x.until_ ≤ 9223372036854775807) (he : each ≤ 9223372036854775807) :
 Calls Tryz.prog 43 #[.agg (setV s), .agg #[.int .i64 x.id, .int .i64 x.op, .int .i64 x.from_, .int .i64 x.until_, .bool x.done, .int .i64 x.at_, .int .i64 x.what], .int .i64 each] w fun e w' => e = .returned (.int .i64 (untilS s x.until_ each)) ∧ Below w.heap.size w w' := by
 have HU := hide (fun w => wbound_c s x each w hg hw0 ha he)
 obtain ⟨T, hT⟩ : ∃ T, T = untilS s x.until_ each := ⟨_, rfl⟩
 rw [← hT] at HU ⊢
 have HB := hide ((below_alloc w (.cells (setV s) 33)).alloc (by simp) (.cells #[.int .i64 x.id, .int .i64 x.op, .int .i64 x.from_, .int .i64 x.until_, .bool x.done, .int .i64 x.at_, .int .i64 x.what] 84))
 clear hg hw0 ha he hT
 go_enter Tryz.func43, Tryz.ntmps43
 go_wp2_with fail
 refine (HU.out _).mono ?_
 rintro e w2 ⟨rfl, hb2⟩
 have HB2 := hide (HB.out.trans (hb2.mono HB.out.size))
 clear hb2
 go_wp2_with fail
 go_ret
 exact ⟨rfl, HB2.out⟩
def op35 : OpM := ⟨2, ⟨#[]⟩, 10, 0, [], 1, -1⟩
def ev35 : List Ev := [⟨1, 0, 0, 3, ⟨#[]⟩, 0, ⟨0, 0, 0, 0, 0, 0⟩⟩, ⟨2, 0, 0, 0, ⟨#[]⟩, 0, ⟨0, 0, 0, 0, 0, 0⟩⟩, ⟨8, 0, 0, 0, ⟨#[]⟩, 0, ⟨14, 0, 3, 0, 0, 0⟩⟩]
theorem lit35 (A B : Option Addr) (c d : Nat) : waitsM [⟨⟨#[97]⟩, 99, 0, A, c, [⟨op35, B, d⟩]⟩] ev35 = [⟨0, 0, 3, 13, true, 14, 3⟩] := by rfl
end Go.Proofs.YtdmdohjdmnmabaaGreat
namespace Go.Proofs.YtdmdohjdmnmabaaGreat
open Go.RowKit
set_option linter.unusedVariables false
set_option linter.unusedSimpArgs false
set_option maxRecDepth 100000 in
set_option maxHeartbeats 6400000 in
theorem lives35_c (w : World) : Calls Tryz.prog 12 #[] w fun e w' => e = .returned (.bool true) ∧ Only NoBlk w w' := by
 go_enter Tryz.func12, Tryz.ntmps12
 go_wp2_with fail
 refine (WaitsOf_c (some ⟨w.heap.size + 1 + 1, 0, none⟩) 1 [⟨⟨#[97]⟩, 99, 0, some ⟨w.heap.size, 0, none⟩, 1, [⟨op35, none, 0⟩]⟩] (some ⟨w.heap.size + 1 + 1 + 1, 0, none⟩) 3 ev35 _ ⟨?_, ?_⟩ (by simp [maxLen]) ?_ ?_ ?_ (by decide) (by decide) (by unfold TkOk; decide) (by decide)).mono ?_
 ·exact rd_blkN (t := 24) (Blk.alloc (Blk.new' (by simp)) _) (fun h => h)
 ·intro v hv
  simp only [List.mem_singleton] at hv
  subst hv
  refine ⟨rd_blkN (t := 75) (Blk.alloc (Blk.alloc (Blk.alloc (Blk.new' rfl) _) _) _) (fun h => h), ?_⟩
  intro o ho
  simp only [List.mem_singleton] at ho
  subst ho
  exact Rd.nil
 ·intro v hv
  simp only [List.mem_singleton] at hv
  subst hv
  refine ⟨by simp [maxLen], show (⟨#[97]⟩ : ByteArray).size ≤ 9223372036854775807 by decide, ?_⟩
  intro o ho
  simp only [List.mem_singleton] at ho
  subst ho
  exact ⟨show op35.text.size ≤ 9223372036854775807 by decide, by simp [op35, maxLen], show ∀ a ∈ op35.arms, a.pat.size ≤ 9223372036854775807 by decide⟩
 ·intro v hv
  simp only [List.mem_singleton] at hv
  subst hv
  intro o ho
  simp only [List.mem_singleton] at ho
  subst ho
  show (10 : Int) ≤ 9223372036854775807
  decide
 ·exact rd_blkN (t := 82) (Blk.new' (by simp)) (fun h => h)
 ·rintro e w2 ⟨⟨A1, c1, he, hr2⟩, ho2⟩
  rw [lit35] at he hr2
  subst he
  obtain ⟨b, o, rfl, _, hb, hc⟩ := flat_cells encWt_len hr2 0 ⟨0, 0, 3, 13, true, 14, 3⟩ rfl (by omega)
  have g0 := hc 0 (by omega)
  have g1 := hc 1 (by omega)
  have g2 := hc 2 (by omega)
  have g3 := hc 3 (by omega)
  have g4 := hc 4 (by omega)
  have g5 := hc 5 (by omega)
  have g6 := hc 6 (by omega)
  simp [encWt] at g0 g1 g2 g3 g4 g5 g6
  have HO := hide (show Only NoBlk w w2 from ((((((Only.refl NoBlk w).alloc _).alloc _).alloc _).alloc _)).trans ho2)
  have HRo := hide (fun w => wBound_c ⟨2, 4, 4, 4, 9, 1⟩ ⟨0, 0, 3, 13, true, 14, 3⟩ 2 w (by decide) (by decide) (by decide) (by decide))
  rw [show untilS ⟨2, 4, 4, 4, 9, 1⟩ 13 2 = 19 from by decide] at HRo
  have HG0 := hide g0
  have HG1 := hide g1
  have HG2 := hide g2
  have HG3 := hide g3
  have HG4 := hide g4
  have HG5 := hide g5
  have HG6 := hide g6
  clear hr2 ho2 hc g0 g1 g2 g3 g4 g5 g6
  simp only [List.length_cons, List.length_nil, Nat.zero_add]
  go_upto_region 4 with fail
  obtain ⟨W4, hW4⟩ : ∃ W4, W4 = w2.alloc (.cells #[.int .i64 2, .int .i64 4, .int .i64 4, .int .i64 4, .int .i64 9, .int .i64 1] 33) := ⟨_, rfl⟩
  have HO4 := hide (show Only NoBlk w W4 by rw [hW4]; exact HO.out.alloc _)
  have HS4 := hide (show Blk W4 w2.heap.size 33 #[.int .i64 2, .int .i64 4, .int .i64 4, .int .i64 4, .int .i64 9, .int .i64 1] by rw [hW4]; exact Blk.new _ _ _)
  have HB4 := hide (show Below w2.heap.size w2 W4 by rw [hW4]; exact below_alloc _ _)
  rw [← hW4]
  clear hW4
  obtain ⟨V0, hV0⟩ : ∃ V9, V9 = W4.drew := ⟨_, rfl⟩
  have HO0 := hide (HO4.out.drew)
  have HS0 := hide (HS4.out.only ((Only.refl NoBlk _).drew) (fun h => h))
  have HB0 := hide (below_dr HB4.out)
  rw [← hV0] at HO0 HS0 HB0
  refine wp_region_held (S := fun w' => w'.cell? ⟨b, o, none⟩ = some (.int .i64 0) ∧ w'.cell? ⟨b, o + 1, none⟩ = some (.int .i64 0) ∧ w'.cell? ⟨b, o + 2, none⟩ = some (.int .i64 3) ∧ w'.cell? ⟨b, o + 3, none⟩ = some (.int .i64 13) ∧ w'.cell? ⟨b, o + 4, none⟩ = some (.bool true) ∧ w'.cell? ⟨b, o + 5, none⟩ = some (.int .i64 14) ∧ w'.cell? ⟨b, o + 6, none⟩ = some (.int .i64 3) ∧ w'.cell? ⟨w2.heap.size, 0, none⟩ = some (.int .i64 2) ∧ w'.cell? ⟨w2.heap.size, 1, none⟩ = some (.int .i64 4) ∧ w'.cell? ⟨w2.heap.size, 2, none⟩ = some (.int .i64 4) ∧ w'.cell? ⟨w2.heap.size, 3, none⟩ = some (.int .i64 4) ∧ w'.cell? ⟨w2.heap.size, 4, none⟩ = some (.int .i64 9) ∧ w'.cell? ⟨w2.heap.size, 5, none⟩ = some (.int .i64 1)) (by kernel_rfl) ?_
  change wpAnyH _ _ _ _ _ _ _ _ W4.drew
  have hHeld : (fun w' => w'.cell? ⟨b, o, none⟩ = some (.int .i64 0) ∧ w'.cell? ⟨b, o + 1, none⟩ = some (.int .i64 0) ∧ w'.cell? ⟨b, o + 2, none⟩ = some (.int .i64 3) ∧ w'.cell? ⟨b, o + 3, none⟩ = some (.int .i64 13) ∧ w'.cell? ⟨b, o + 4, none⟩ = some (.bool true) ∧ w'.cell? ⟨b, o + 5, none⟩ = some (.int .i64 14) ∧ w'.cell? ⟨b, o + 6, none⟩ = some (.int .i64 3) ∧ w'.cell? ⟨w2.heap.size, 0, none⟩ = some (.int .i64 2) ∧ w'.cell? ⟨w2.heap.size, 1, none⟩ = some (.int .i64 4) ∧ w'.cell? ⟨w2.heap.size, 2, none⟩ = some (.int .i64 4) ∧ w'.cell? ⟨w2.heap.size, 3, none⟩ = some (.int .i64 4) ∧ w'.cell? ⟨w2.heap.size, 4, none⟩ = some (.int .i64 9) ∧ w'.cell? ⟨w2.heap.size, 5, none⟩ = some (.int .i64 1)) W4.drew := by rw [← hV0]; exact (by refine ⟨bkeepL HB0.out hb HG0.out, bkeepL HB0.out hb HG1.out, bkeepL HB0.out hb HG2.out, bkeepL HB0.out hb HG3.out, bkeepL HB0.out hb HG4.out, bkeepL HB0.out hb HG5.out, bkeepL HB0.out hb HG6.out, (by rw [(HS0.out).cell]; rfl), (by rw [(HS0.out).cell]; rfl), (by rw [(HS0.out).cell]; rfl), (by rw [(HS0.out).cell]; rfl), (by rw [(HS0.out).cell]; rfl), (by rw [(HS0.out).cell]; rfl)⟩)
  rw [← hV0] at hHeld ⊢
  simp only [List.size_toArray, List.length_cons, List.length_nil, Nat.zero_add, Nat.reduceAdd]
  clear hV0
  refine wpAnyH_take (i := 0) (v := ?_) rfl (by kernel_rfl) (by kernel_rfl) (by kernel_rfl) (fun _ _ _ h => h) (Or.inl ⟨by rfl, ?_⟩) (by assumption) ?_
  rotate_left
  ·(intro w9 hS9; (try simp only [List.getElem_toArray, List.getElem_cons_zero, List.getElem_cons_succ]); go_simp <;> rfl)
  try simp only [Act.put, List.setIfInBounds_toArray, List.set_cons_zero, List.set_cons_succ, List.getElem_toArray, List.getElem_cons_zero, List.getElem_cons_succ]
  refine wpAnyH_take (i := 1) (v := ?_) rfl (by kernel_rfl) (by kernel_rfl) (by kernel_rfl) (fun _ _ _ h => h) (Or.inl ⟨by rfl, ?_⟩) (by assumption) ?_
  rotate_left
  ·(intro w9 hS9; (try simp only [List.getElem_toArray, List.getElem_cons_zero, List.getElem_cons_succ]); go_simp <;> rfl)
  try simp only [Act.put, List.setIfInBounds_toArray, List.set_cons_zero, List.set_cons_succ, List.getElem_toArray, List.getElem_cons_zero, List.getElem_cons_succ]
  refine wpAnyH_take (i := 2) (v := ?_) rfl (by kernel_rfl) (by kernel_rfl) (by kernel_rfl) (fun _ _ _ h => h) (Or.inl ⟨by rfl, ?_⟩) (by assumption) ?_
  rotate_left
  ·(intro w9 hS9; (try simp only [List.getElem_toArray, List.getElem_cons_zero, List.getElem_cons_succ]); go_simp <;> rfl)
  try simp only [Act.put, List.setIfInBounds_toArray, List.set_cons_zero, List.set_cons_succ, List.getElem_toArray, List.getElem_cons_zero, List.getElem_cons_succ]
  refine wpAnyH_take (i := 3) (v := ?_) rfl (by kernel_rfl) (by kernel_rfl) (by kernel_rfl) (fun _ _ _ h => h) (Or.inl ⟨by rfl, ?_⟩) (by assumption) ?_
  rotate_left
  ·(intro w9 hS9; (try simp only [List.getElem_toArray, List.getElem_cons_zero, List.getElem_cons_succ]); go_simp <;> rfl)
  try simp only [Act.put, List.setIfInBounds_toArray, List.set_cons_zero, List.set_cons_succ, List.getElem_toArray, List.getElem_cons_zero, List.getElem_cons_succ]
  refine wpAnyH_take (i := 4) (v := ?_) rfl (by kernel_rfl) (by kernel_rfl) (by kernel_rfl) (fun _ _ _ h => h) (Or.inl ⟨by rfl, ?_⟩) (by assumption) ?_
  rotate_left
  ·(intro w9 hS9; (try simp only [List.getElem_toArray, List.getElem_cons_zero, List.getElem_cons_succ]); go_simp <;> rfl)
  try simp only [Act.put, List.setIfInBounds_toArray, List.set_cons_zero, List.set_cons_succ, List.getElem_toArray, List.getElem_cons_zero, List.getElem_cons_succ]
  refine wpAnyH_take (i := 5) (v := ?_) rfl (by kernel_rfl) (by kernel_rfl) (by kernel_rfl) (fun _ _ _ h => h) (Or.inl ⟨by rfl, ?_⟩) (by assumption) ?_
  rotate_left
  ·(intro w9 hS9; (try simp only [List.getElem_toArray, List.getElem_cons_zero, List.getElem_cons_succ]); go_simp <;> rfl)
  try simp only [Act.put, List.setIfInBounds_toArray, List.set_cons_zero, List.set_cons_succ, List.getElem_toArray, List.getElem_cons_zero, List.getElem_cons_succ]
  refine wpAnyH_take (i := 6) (v := ?_) rfl (by kernel_rfl) (by kernel_rfl) (by kernel_rfl) (fun _ _ _ h => h) (Or.inl ⟨by rfl, ?_⟩) (by assumption) ?_
  rotate_left
  ·(intro w9 hS9; (try simp only [List.getElem_toArray, List.getElem_cons_zero, List.getElem_cons_succ]); go_simp <;> rfl)
  try simp only [Act.put, List.setIfInBounds_toArray, List.set_cons_zero, List.set_cons_succ, List.getElem_toArray, List.getElem_cons_zero, List.getElem_cons_succ]
  refine wpAnyH_take (i := 7) (v := ?_) rfl (by kernel_rfl) (by kernel_rfl) (by kernel_rfl) (fun _ _ _ h => h) (Or.inl ⟨by rfl, ?_⟩) (by assumption) ?_
  rotate_left
  ·(intro w9 hS9; (try simp only [List.getElem_toArray, List.getElem_cons_zero, List.getElem_cons_succ]); go_simp <;> rfl)
  try simp only [Act.put, List.setIfInBounds_toArray, List.set_cons_zero, List.set_cons_succ, List.getElem_toArray, List.getElem_cons_zero, List.getElem_cons_succ]
  refine wpAnyH_take (i := 8) (v := ?_) rfl (by kernel_rfl) (by kernel_rfl) (by kernel_rfl) (fun _ _ _ h => h) (Or.inl ⟨by rfl, ?_⟩) (by assumption) ?_
  rotate_left
  ·(intro w9 hS9; (try simp only [List.getElem_toArray, List.getElem_cons_zero, List.getElem_cons_succ]); go_simp <;> rfl)
  try simp only [Act.put, List.setIfInBounds_toArray, List.set_cons_zero, List.set_cons_succ, List.getElem_toArray, List.getElem_cons_zero, List.getElem_cons_succ]
  refine wpAnyH_take (i := 9) (v := ?_) rfl (by kernel_rfl) (by kernel_rfl) (by kernel_rfl) (fun _ _ _ h => h) (Or.inl ⟨by rfl, ?_⟩) (by assumption) ?_
  rotate_left
  ·(intro w9 hS9; (try simp only [List.getElem_toArray, List.getElem_cons_zero, List.getElem_cons_succ]); go_simp <;> rfl)
  try simp only [Act.put, List.setIfInBounds_toArray, List.set_cons_zero, List.set_cons_succ, List.getElem_toArray, List.getElem_cons_zero, List.getElem_cons_succ]
  refine wpAnyH_take (i := 10) (v := ?_) rfl (by kernel_rfl) (by kernel_rfl) (by kernel_rfl) (fun _ _ _ h => h) (Or.inl ⟨by rfl, ?_⟩) (by assumption) ?_
  rotate_left
  ·(intro w9 hS9; (try simp only [List.getElem_toArray, List.getElem_cons_zero, List.getElem_cons_succ]); go_simp <;> rfl)
  try simp only [Act.put, List.setIfInBounds_toArray, List.set_cons_zero, List.set_cons_succ, List.getElem_toArray, List.getElem_cons_zero, List.getElem_cons_succ]
  refine wpAnyH_take (i := 11) (v := ?_) rfl (by kernel_rfl) (by kernel_rfl) (by kernel_rfl) (fun _ _ _ h => h) (Or.inl ⟨by rfl, ?_⟩) (by assumption) ?_
  rotate_left
  ·(intro w9 hS9; (try simp only [List.getElem_toArray, List.getElem_cons_zero, List.getElem_cons_succ]); go_simp <;> rfl)
  try simp only [Act.put, List.setIfInBounds_toArray, List.set_cons_zero, List.set_cons_succ, List.getElem_toArray, List.getElem_cons_zero, List.getElem_cons_succ]
  refine wpAnyH_take (i := 12) (v := ?_) rfl (by kernel_rfl) (by kernel_rfl) (by kernel_rfl) (fun _ _ _ h => h) (Or.inl ⟨by rfl, ?_⟩) (by assumption) ?_
  rotate_left
  ·(intro w9 hS9; (try simp only [List.getElem_toArray, List.getElem_cons_zero, List.getElem_cons_succ]); go_simp <;> rfl)
  try simp only [Act.put, List.setIfInBounds_toArray, List.set_cons_zero, List.set_cons_succ, List.getElem_toArray, List.getElem_cons_zero, List.getElem_cons_succ]
  refine wpAnyH_take (i := 13) (v := ?_) rfl (by kernel_rfl) (by kernel_rfl) (by kernel_rfl) (fun _ _ _ h => h) (Or.inl ⟨by rfl, ?_⟩) (by assumption) ?_
  rotate_left
  ·(intro w9 hS9; (try simp only [List.getElem_toArray, List.getElem_cons_zero, List.getElem_cons_succ]); go_simp <;> rfl)
  try simp only [Act.put, List.setIfInBounds_toArray, List.set_cons_zero, List.set_cons_succ, List.getElem_toArray, List.getElem_cons_zero, List.getElem_cons_succ]
  refine wpAnyH_take (i := 14) (v := ?_) rfl (by kernel_rfl) (by kernel_rfl) (by kernel_rfl) (fun _ _ _ h => h) (Or.inl ⟨by rfl, ?_⟩) (by assumption) ?_
  rotate_left
  ·(intro w9 hS9; (try simp only [List.getElem_toArray, List.getElem_cons_zero, List.getElem_cons_succ]); go_simp <;> rfl)
  try simp only [Act.put, List.setIfInBounds_toArray, List.set_cons_zero, List.set_cons_succ, List.getElem_toArray, List.getElem_cons_zero, List.getElem_cons_succ]
  refine wpAnyH_ready (rs := [15]) (by kernel_rfl) (by simp) ?_
  refine AllReadyH.cons rfl (fun K hK => ?_) AllReadyH.nil
  try simp only [List.getElem_toArray, List.getElem_cons_zero, List.getElem_cons_succ]
  try go_simp
  go_at_call 43
  refine (HRo.out _).mono ?_
  rintro e V1 ⟨rfl, hb1⟩
  have HO1 := hide (HO0.out.trans (Only.of_below hb1 _))
  have HS1 := hide (HS0.out.below hb1)
  have HB1 := hide (HB0.out.trans (hb1.mono HB0.out.size))
  clear hb1
  refine hK.out _ _ (by refine ⟨bkeepL HB1.out hb HG0.out, bkeepL HB1.out hb HG1.out, bkeepL HB1.out hb HG2.out, bkeepL HB1.out hb HG3.out, bkeepL HB1.out hb HG4.out, bkeepL HB1.out hb HG5.out, bkeepL HB1.out hb HG6.out, (by rw [(HS1.out).cell]; rfl), (by rw [(HS1.out).cell]; rfl), (by rw [(HS1.out).cell]; rfl), (by rw [(HS1.out).cell]; rfl), (by rw [(HS1.out).cell]; rfl), (by rw [(HS1.out).cell]; rfl)⟩) (fun hHeld => ?_)
  clear hK K
  try simp only [Act.put, List.setIfInBounds_toArray, List.set_cons_zero, List.set_cons_succ, List.getElem_toArray, List.getElem_cons_zero, List.getElem_cons_succ]
  refine wpAnyH_take (i := 16) (v := ?_) rfl (by kernel_rfl) (by kernel_rfl) (by kernel_rfl) (fun _ _ _ h => h) (Or.inl ⟨by rfl, ?_⟩) (by assumption) ?_
  rotate_left
  ·(intro w9 hS9; (try simp only [List.getElem_toArray, List.getElem_cons_zero, List.getElem_cons_succ]); go_simp <;> rfl)
  try simp only [Act.put, List.setIfInBounds_toArray, List.set_cons_zero, List.set_cons_succ, List.getElem_toArray, List.getElem_cons_zero, List.getElem_cons_succ]
  refine wpAnyH_take (i := 17) (v := ?_) rfl (by kernel_rfl) (by kernel_rfl) (by kernel_rfl) (fun _ _ _ h => h) (Or.inl ⟨by rfl, ?_⟩) (by assumption) ?_
  rotate_left
  ·(intro w9 hS9; (try simp only [List.getElem_toArray, List.getElem_cons_zero, List.getElem_cons_succ]); go_simp <;> rfl)
  try simp only [Act.put, List.setIfInBounds_toArray, List.set_cons_zero, List.set_cons_succ, List.getElem_toArray, List.getElem_cons_zero, List.getElem_cons_succ]
  refine wpAnyH_take (i := 18) (v := ?_) rfl (by kernel_rfl) (by kernel_rfl) (by kernel_rfl) (fun _ _ _ h => h) (Or.inl ⟨by rfl, ?_⟩) (by assumption) ?_
  rotate_left
  ·(intro w9 hS9; (try simp only [List.getElem_toArray, List.getElem_cons_zero, List.getElem_cons_succ]); go_simp <;> rfl)
  try simp only [Act.put, List.setIfInBounds_toArray, List.set_cons_zero, List.set_cons_succ, List.getElem_toArray, List.getElem_cons_zero, List.getElem_cons_succ]
  refine wpAnyH_done (by kernel_rfl) ?_ _
  try simp only [Exit.then]
  clear hHeld
  go_wp2_with fail
  go_ret
  exact ⟨rfl, HO1.out⟩
end Go.Proofs.YtdmdohjdmnmabaaGreat
