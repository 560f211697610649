/- That a send is told; in how many rounds one is done. Conditions: those of each theorem. -/
import Derived.Test.YtgfogoplmokilaaSd6
import Derived.Test.YtgfogoplmokilaaSdB
namespace Go.Proofs.Ytgfogoplmokilaa
open Go.RowKit
set_option linter.unusedVariables false
set_option linter.unusedSimpArgs false

theorem sBound_c (s : SetM) (x : SdM) (write : Int) (w : World) : Calls Try.prog 30 #[.agg (setV s), .agg #[.int .i64 x.id, .int .i64 x.op, .int .i64 x.long, .int .i64 x.from_, .int .i64 x.taken, .bool x.done, .int .i64 x.at_], .int .i64 write] w fun e w' => e = .returned (.int .i64 (boundS s x.long write)) ∧ Below w.heap.size w w' := by
  have C := hide (fun w' => sbound_c s x write w')
  obtain ⟨T, hT⟩ : ∃ T, T = boundS s x.long write := ⟨_, rfl⟩
  rw [← hT] at C ⊢
  have HL := hide (show Below w.heap.size w ((w.alloc (.cells (setV s) 52)).alloc (.cells #[.int .i64 x.id, .int .i64 x.op, .int .i64 x.long, .int .i64 x.from_, .int .i64 x.taken, .bool x.done, .int .i64 x.at_] 66)) from (below_alloc _ _).alloc (by simp) _)
  clear hT
  go_enter Try.func30, Try.ntmps30
  go_wp2_with fail
  refine (C.out _).mono ?_
  rintro e w1 ⟨rfl, hb1⟩
  have HB1 := hide (HL.out.trans (hb1.mono HL.out.size))
  clear hb1
  go_wp2_with fail
  go_ret
  exact ⟨rfl, HB1.out⟩
def st36 : Stp := ⟨0, 0, 0, 0, 0, 0⟩
def ev36 : List Ev := [⟨1, 0, 0, 0, ⟨#[]⟩, 0, st36⟩, ⟨2, 0, 0, 0, ⟨#[]⟩, 0, st36⟩, ⟨1, 0, 0, 0, ⟨#[]⟩, 0, st36⟩, ⟨1, 0, 0, 0, ⟨#[]⟩, 0, st36⟩, ⟨6, 0, 3, 0, ⟨#[104, 101, 108]⟩, 0, st36⟩, ⟨1, 0, 0, 0, ⟨#[]⟩, 0, st36⟩, ⟨6, 0, 2, 0, ⟨#[108, 111]⟩, 0, st36⟩]
def op36 : OpM := ⟨1, ⟨#[104, 101, 108, 108, 111]⟩, 0, 0, [], 0, 0⟩
theorem lit36 (B : Option Addr) (c d : Nat) : allS [⟨⟨#[97]⟩, 99, 0, B, c, [⟨op36, none, d⟩]⟩] ev36 = [⟨0, 0, 5, 0, 5, true, 3⟩] := by rfl
def set36 : SetM := ⟨2, 4, 4, 4, 3, 1⟩
theorem lit36b : boundS set36 5 2 = 35 := by decide
theorem lag_at {w : World} {b o : Nat} {x : SdM} (hr : Rd w NoBlk (some ⟨b, o, none⟩) (flat encSd [x])) : w.cell? ⟨b, o, none⟩ = some (.int .i64 x.id) ∧ w.cell? ⟨b, o + 1, none⟩ = some (.int .i64 x.op) ∧ w.cell? ⟨b, o + 2, none⟩ = some (.int .i64 x.long) ∧ w.cell? ⟨b, o + 3, none⟩ = some (.int .i64 x.from_) ∧ w.cell? ⟨b, o + 4, none⟩ = some (.int .i64 x.taken) ∧ w.cell? ⟨b, o + 5, none⟩ = some (.bool x.done) ∧ w.cell? ⟨b, o + 6, none⟩ = some (.int .i64 x.at_) := by
  obtain ⟨b2, o2, hA, _, hb, hc⟩ := flat_cells encSd_len hr 0 x rfl (by omega)
  injection hA with hA
  injection hA with h1 h2
  subst h1 h2
  simp only [Nat.zero_mul, Nat.add_zero] at hc
  exact ⟨hc 0 (by omega), hc 1 (by omega), hc 2 (by omega), hc 3 (by omega), hc 4 (by omega), hc 5 (by omega), hc 6 (by omega)⟩
set_option maxRecDepth 100000 in
set_option maxHeartbeats 6400000 in
theorem lives36_c (w : World) : Calls Try.prog 32 #[] w fun e w' => e = .returned (.bool true) ∧ Only NoBlk w w' := by
  go_enter Try.func32, Try.ntmps32
  go_wp2_with fail
  refine (sOf_c (some ⟨w.heap.size + 1 + 1 + 1, 0, none⟩) 1 [⟨⟨#[97]⟩, 99, 0, some ⟨w.heap.size, 0, none⟩, 1, [⟨op36, none, 0⟩]⟩] (some ⟨w.heap.size + 1 + 1, 0, none⟩) 7 ev36 _ ⟨?_, ?_⟩ (by simp [maxLen]) ?_ ?_ (by decide) (by decide) (by decide)).mono ?_
  · exact rd_blkN (t := 93) (Blk.new' (by simp)) (fun h => h)
  · intro v hv
    simp only [List.mem_singleton] at hv
    subst hv
    refine ⟨rd_blkN (t := 90) (Blk.alloc (Blk.alloc (Blk.alloc (Blk.new' rfl) _) _) _) (fun h => h), ?_⟩
    intro o ho
    simp only [List.mem_singleton] at ho
    subst ho
    exact Rd.nil
  · intro v hv
    simp only [List.mem_singleton] at hv
    subst hv
    refine ⟨by simp [maxLen], show (⟨#[97]⟩ : ByteArray).size ≤ 9223372036854775807 by decide, ?_⟩
    intro o ho
    simp only [List.mem_singleton] at ho
    subst ho
    exact ⟨show op36.text.size ≤ 9223372036854775807 by decide, by simp [op36, maxLen], show ∀ a ∈ op36.arms, a.pat.size ≤ 9223372036854775807 by decide⟩
  · exact rd_blkN (t := 47) (Blk.alloc (Blk.new' (by simp)) _) (fun h => h)
  · rintro e w2 ⟨⟨A1, c1, he, hr2⟩, ho2⟩
    rw [lit36] at he hr2
    subst he
    obtain ⟨b, o, rfl, _, hb, _⟩ := flat_cells encSd_len hr2 0 ⟨0, 0, 5, 0, 5, true, 3⟩ rfl (by omega)
    have HR2 := hide hr2
    have HO := hide (show Only NoBlk w w2 from (((((Only.refl NoBlk w).alloc _).alloc _).alloc _).alloc _).trans ho2)
    have HBd := hide (fun w => sBound_c set36 ⟨0, 0, 5, 0, 5, true, 3⟩ 2 w)
    rw [show boundS set36 (SdM.long ⟨0, 0, 5, 0, 5, true, 3⟩) 2 = 35 from lit36b] at HBd
    clear hr2 ho2
    simp only [List.length_cons, List.length_nil, Nat.zero_add]
    go_upto_region 5 with fail
    obtain ⟨W3, hW3⟩ : ∃ W3, W3 = w2.alloc (.cells #[.int .i64 2, .int .i64 4, .int .i64 4, .int .i64 4, .int .i64 3, .int .i64 1] 52) := ⟨_, rfl⟩
    have HB3 := hide (show Blk W3 w2.heap.size 52 #[.int .i64 2, .int .i64 4, .int .i64 4, .int .i64 4, .int .i64 3, .int .i64 1] by rw [hW3]; exact Blk.new _ _ _)
    have HO3 := hide (show Only NoBlk w W3 by rw [hW3]; exact HO.out.alloc _)
    have HR3 := hide (show Rd W3 NoBlk (some ⟨b, o, none⟩) (flat encSd [⟨0, 0, 5, 0, 5, true, 3⟩]) by rw [hW3]; exact HR2.out.only ((Only.refl NoBlk _).alloc _) (fun _ h => h))
    have HCell := hide (fun (w' : World) (hr : Rd w' NoBlk (some ⟨b, o, none⟩) (flat encSd [⟨0, 0, 5, 0, 5, true, 3⟩])) => lag_at hr)
    rw [← hW3]
    obtain ⟨sg, hsg⟩ : ∃ sg, sg = w2.heap.size := ⟨_, rfl⟩
    rw [← hsg] at HB3 ⊢
    clear hW3 hsg
    obtain ⟨V0, hV0⟩ : ∃ V9, V9 = W3.drew := ⟨_, rfl⟩
    have HB4 := hide (show Blk V0 sg 52 #[.int .i64 2, .int .i64 4, .int .i64 4, .int .i64 4, .int .i64 3, .int .i64 1] by rw [hV0]; exact HB3.out.drew)
    have HO4 := hide (show Only NoBlk w V0 by rw [hV0]; exact HO3.out.drew)
    have HR4 := hide (show Rd V0 NoBlk (some ⟨b, o, none⟩) (flat encSd [⟨0, 0, 5, 0, 5, true, 3⟩]) by rw [hV0]; exact HR3.out)
    refine wp_region_held (S := fun w' => w'.cell? ⟨sg, 0, none⟩ = some (.int .i64 2) ∧ w'.cell? ⟨sg, 1, none⟩ = some (.int .i64 4) ∧ w'.cell? ⟨sg, 2, none⟩ = some (.int .i64 4) ∧ w'.cell? ⟨sg, 3, none⟩ = some (.int .i64 4) ∧ w'.cell? ⟨sg, 4, none⟩ = some (.int .i64 3) ∧ w'.cell? ⟨sg, 5, none⟩ = some (.int .i64 1) ∧ w'.cell? ⟨b, o, none⟩ = some (.int .i64 0) ∧ w'.cell? ⟨b, o + 1, none⟩ = some (.int .i64 0) ∧ w'.cell? ⟨b, o + 2, none⟩ = some (.int .i64 5) ∧ w'.cell? ⟨b, o + 3, none⟩ = some (.int .i64 0) ∧ w'.cell? ⟨b, o + 4, none⟩ = some (.int .i64 5) ∧ w'.cell? ⟨b, o + 5, none⟩ = some (.bool true) ∧ w'.cell? ⟨b, o + 6, none⟩ = some (.int .i64 3)) (by kernel_rfl) ?_
    change wpAnyH _ _ _ _ _ _ _ _ W3.drew
    have hHeld : (fun w' => w'.cell? ⟨sg, 0, none⟩ = some (.int .i64 2) ∧ w'.cell? ⟨sg, 1, none⟩ = some (.int .i64 4) ∧ w'.cell? ⟨sg, 2, none⟩ = some (.int .i64 4) ∧ w'.cell? ⟨sg, 3, none⟩ = some (.int .i64 4) ∧ w'.cell? ⟨sg, 4, none⟩ = some (.int .i64 3) ∧ w'.cell? ⟨sg, 5, none⟩ = some (.int .i64 1) ∧ w'.cell? ⟨b, o, none⟩ = some (.int .i64 0) ∧ w'.cell? ⟨b, o + 1, none⟩ = some (.int .i64 0) ∧ w'.cell? ⟨b, o + 2, none⟩ = some (.int .i64 5) ∧ w'.cell? ⟨b, o + 3, none⟩ = some (.int .i64 0) ∧ w'.cell? ⟨b, o + 4, none⟩ = some (.int .i64 5) ∧ w'.cell? ⟨b, o + 5, none⟩ = some (.bool true) ∧ w'.cell? ⟨b, o + 6, none⟩ = some (.int .i64 3)) W3.drew := by rw [← hV0]; exact (by obtain ⟨q0, q1, q2, q3, q4, q5⟩ := (HB4.out).six; obtain ⟨r0, r1, r2, r3, r4, r5, r6⟩ := HCell.out _ HR4.out; exact ⟨q0, q1, q2, q3, q4, q5, r0, r1, r2, r3, r4, r5, r6⟩)
    rw [← hV0] at hHeld ⊢
    simp only [List.size_toArray, List.length_cons, List.length_nil, Nat.zero_add, Nat.reduceAdd]
    clear hV0
    refine wpAnyH_take (i := 0) (v := ?_) rfl (by kernel_rfl) (by kernel_rfl) (by kernel_rfl) (fun _ _ _ h => h) (Or.inl ⟨by rfl, ?_⟩) (by assumption) ?_
    rotate_left
    · (intro w9 hS9; try simp only [List.getElem_toArray, List.getElem_cons_zero, List.getElem_cons_succ]
       go_simp <;> rfl)
    try simp only [Act.put, List.setIfInBounds_toArray, List.set_cons_zero, List.set_cons_succ, List.getElem_toArray, List.getElem_cons_zero, List.getElem_cons_succ]
    refine wpAnyH_take (i := 1) (v := ?_) rfl (by kernel_rfl) (by kernel_rfl) (by kernel_rfl) (fun _ _ _ h => h) (Or.inl ⟨by rfl, ?_⟩) (by assumption) ?_
    rotate_left
    · (intro w9 hS9; try simp only [List.getElem_toArray, List.getElem_cons_zero, List.getElem_cons_succ]
       go_simp <;> rfl)
    try simp only [Act.put, List.setIfInBounds_toArray, List.set_cons_zero, List.set_cons_succ, List.getElem_toArray, List.getElem_cons_zero, List.getElem_cons_succ]
    refine wpAnyH_take (i := 2) (v := ?_) rfl (by kernel_rfl) (by kernel_rfl) (by kernel_rfl) (fun _ _ _ h => h) (Or.inl ⟨by rfl, ?_⟩) (by assumption) ?_
    rotate_left
    · (intro w9 hS9; try simp only [List.getElem_toArray, List.getElem_cons_zero, List.getElem_cons_succ]
       go_simp <;> rfl)
    try simp only [Act.put, List.setIfInBounds_toArray, List.set_cons_zero, List.set_cons_succ, List.getElem_toArray, List.getElem_cons_zero, List.getElem_cons_succ]
    refine wpAnyH_take (i := 3) (v := ?_) rfl (by kernel_rfl) (by kernel_rfl) (by kernel_rfl) (fun _ _ _ h => h) (Or.inl ⟨by rfl, ?_⟩) (by assumption) ?_
    rotate_left
    · (intro w9 hS9; try simp only [List.getElem_toArray, List.getElem_cons_zero, List.getElem_cons_succ]
       go_simp <;> rfl)
    try simp only [Act.put, List.setIfInBounds_toArray, List.set_cons_zero, List.set_cons_succ, List.getElem_toArray, List.getElem_cons_zero, List.getElem_cons_succ]
    refine wpAnyH_take (i := 4) (v := ?_) rfl (by kernel_rfl) (by kernel_rfl) (by kernel_rfl) (fun _ _ _ h => h) (Or.inl ⟨by rfl, ?_⟩) (by assumption) ?_
    rotate_left
    · (intro w9 hS9; try simp only [List.getElem_toArray, List.getElem_cons_zero, List.getElem_cons_succ]
       go_simp <;> rfl)
    try simp only [Act.put, List.setIfInBounds_toArray, List.set_cons_zero, List.set_cons_succ, List.getElem_toArray, List.getElem_cons_zero, List.getElem_cons_succ]
    refine wpAnyH_take (i := 5) (v := ?_) rfl (by kernel_rfl) (by kernel_rfl) (by kernel_rfl) (fun _ _ _ h => h) (Or.inl ⟨by rfl, ?_⟩) (by assumption) ?_
    rotate_left
    · (intro w9 hS9; try simp only [List.getElem_toArray, List.getElem_cons_zero, List.getElem_cons_succ]
       go_simp <;> rfl)
    try simp only [Act.put, List.setIfInBounds_toArray, List.set_cons_zero, List.set_cons_succ, List.getElem_toArray, List.getElem_cons_zero, List.getElem_cons_succ]
    refine wpAnyH_take (i := 6) (v := ?_) rfl (by kernel_rfl) (by kernel_rfl) (by kernel_rfl) (fun _ _ _ h => h) (Or.inl ⟨by rfl, ?_⟩) (by assumption) ?_
    rotate_left
    · (intro w9 hS9; try simp only [List.getElem_toArray, List.getElem_cons_zero, List.getElem_cons_succ]
       go_simp <;> rfl)
    try simp only [Act.put, List.setIfInBounds_toArray, List.set_cons_zero, List.set_cons_succ, List.getElem_toArray, List.getElem_cons_zero, List.getElem_cons_succ]
    refine wpAnyH_take (i := 7) (v := ?_) rfl (by kernel_rfl) (by kernel_rfl) (by kernel_rfl) (fun _ _ _ h => h) (Or.inl ⟨by rfl, ?_⟩) (by assumption) ?_
    rotate_left
    · (intro w9 hS9; try simp only [List.getElem_toArray, List.getElem_cons_zero, List.getElem_cons_succ]
       go_simp <;> rfl)
    try simp only [Act.put, List.setIfInBounds_toArray, List.set_cons_zero, List.set_cons_succ, List.getElem_toArray, List.getElem_cons_zero, List.getElem_cons_succ]
    refine wpAnyH_take (i := 8) (v := .bool true) rfl (by kernel_rfl) (by kernel_rfl) (by kernel_rfl) (fun _ _ _ h => h) (Or.inl ⟨by rfl, ?_⟩) (by assumption) ?_
    · (intro w9 hS9; try simp only [List.getElem_toArray, List.getElem_cons_zero, List.getElem_cons_succ]
       go_simp)
    try simp only [Act.put, List.setIfInBounds_toArray, List.set_cons_zero, List.set_cons_succ, List.getElem_toArray, List.getElem_cons_zero, List.getElem_cons_succ]
    refine wpAnyH_take (i := 9) (v := ?_) rfl (by kernel_rfl) (by kernel_rfl) (by kernel_rfl) (fun _ _ _ h => h) (Or.inl ⟨by rfl, ?_⟩) (by assumption) ?_
    rotate_left
    · (intro w9 hS9; try simp only [List.getElem_toArray, List.getElem_cons_zero, List.getElem_cons_succ]
       go_simp <;> rfl)
    try simp only [Act.put, List.setIfInBounds_toArray, List.set_cons_zero, List.set_cons_succ, List.getElem_toArray, List.getElem_cons_zero, List.getElem_cons_succ]
    refine wpAnyH_take (i := 10) (v := ?_) rfl (by kernel_rfl) (by kernel_rfl) (by kernel_rfl) (fun _ _ _ h => h) (Or.inl ⟨by rfl, ?_⟩) (by assumption) ?_
    rotate_left
    · (intro w9 hS9; try simp only [List.getElem_toArray, List.getElem_cons_zero, List.getElem_cons_succ]
       go_simp <;> rfl)
    try simp only [Act.put, List.setIfInBounds_toArray, List.set_cons_zero, List.set_cons_succ, List.getElem_toArray, List.getElem_cons_zero, List.getElem_cons_succ]
    refine wpAnyH_take (i := 11) (v := ?_) rfl (by kernel_rfl) (by kernel_rfl) (by kernel_rfl) (fun _ _ _ h => h) (Or.inl ⟨by rfl, ?_⟩) (by assumption) ?_
    rotate_left
    · (intro w9 hS9; try simp only [List.getElem_toArray, List.getElem_cons_zero, List.getElem_cons_succ]
       go_simp <;> rfl)
    try simp only [Act.put, List.setIfInBounds_toArray, List.set_cons_zero, List.set_cons_succ, List.getElem_toArray, List.getElem_cons_zero, List.getElem_cons_succ]
    refine wpAnyH_take (i := 12) (v := ?_) rfl (by kernel_rfl) (by kernel_rfl) (by kernel_rfl) (fun _ _ _ h => h) (Or.inl ⟨by rfl, ?_⟩) (by assumption) ?_
    rotate_left
    · (intro w9 hS9; try simp only [List.getElem_toArray, List.getElem_cons_zero, List.getElem_cons_succ]
       go_simp <;> rfl)
    try simp only [Act.put, List.setIfInBounds_toArray, List.set_cons_zero, List.set_cons_succ, List.getElem_toArray, List.getElem_cons_zero, List.getElem_cons_succ]
    refine wpAnyH_take (i := 13) (v := ?_) rfl (by kernel_rfl) (by kernel_rfl) (by kernel_rfl) (fun _ _ _ h => h) (Or.inl ⟨by rfl, ?_⟩) (by assumption) ?_
    rotate_left
    · (intro w9 hS9; try simp only [List.getElem_toArray, List.getElem_cons_zero, List.getElem_cons_succ]
       go_simp <;> rfl)
    try simp only [Act.put, List.setIfInBounds_toArray, List.set_cons_zero, List.set_cons_succ, List.getElem_toArray, List.getElem_cons_zero, List.getElem_cons_succ]
    refine wpAnyH_take (i := 14) (v := ?_) rfl (by kernel_rfl) (by kernel_rfl) (by kernel_rfl) (fun _ _ _ h => h) (Or.inl ⟨by rfl, ?_⟩) (by assumption) ?_
    rotate_left
    · (intro w9 hS9; try simp only [List.getElem_toArray, List.getElem_cons_zero, List.getElem_cons_succ]
       go_simp <;> rfl)
    try simp only [Act.put, List.setIfInBounds_toArray, List.set_cons_zero, List.set_cons_succ, List.getElem_toArray, List.getElem_cons_zero, List.getElem_cons_succ]
    refine wpAnyH_ready (rs := [15]) (by kernel_rfl) (by simp) ?_
    refine AllReadyH.cons rfl (fun K hK => ?_) AllReadyH.nil
    try simp only [List.getElem_toArray, List.getElem_cons_zero, List.getElem_cons_succ]
    try go_simp
    go_at_call 30
    refine (HBd.out _).mono ?_
    rintro e V1 ⟨rfl, hb5⟩
    have HB5 := hide (HB4.out.below hb5)
    have HO5 := hide (HO4.out.trans (Only.of_below hb5 _))
    have HR5 := hide (HR4.out.below hb5)
    clear hb5
    refine hK.out _ _ (by obtain ⟨q0, q1, q2, q3, q4, q5⟩ := (HB5.out).six; obtain ⟨r0, r1, r2, r3, r4, r5, r6⟩ := HCell.out _ HR5.out; exact ⟨q0, q1, q2, q3, q4, q5, r0, r1, r2, r3, r4, r5, r6⟩) (fun hHeld => ?_)
    clear hK K
    try simp only [Act.put, List.setIfInBounds_toArray, List.set_cons_zero, List.set_cons_succ, List.getElem_toArray, List.getElem_cons_zero, List.getElem_cons_succ]
    refine wpAnyH_take (i := 16) (v := ?_) rfl (by kernel_rfl) (by kernel_rfl) (by kernel_rfl) (fun _ _ _ h => h) (Or.inl ⟨by rfl, ?_⟩) (by assumption) ?_
    rotate_left
    · (intro w9 hS9; try simp only [List.getElem_toArray, List.getElem_cons_zero, List.getElem_cons_succ]
       go_simp <;> rfl)
    try simp only [Act.put, List.setIfInBounds_toArray, List.set_cons_zero, List.set_cons_succ, List.getElem_toArray, List.getElem_cons_zero, List.getElem_cons_succ]
    refine wpAnyH_take (i := 17) (v := ?_) rfl (by kernel_rfl) (by kernel_rfl) (by kernel_rfl) (fun _ _ _ h => h) (Or.inl ⟨by rfl, ?_⟩) (by assumption) ?_
    rotate_left
    · (intro w9 hS9; try simp only [List.getElem_toArray, List.getElem_cons_zero, List.getElem_cons_succ]
       go_simp <;> rfl)
    try simp only [Act.put, List.setIfInBounds_toArray, List.set_cons_zero, List.set_cons_succ, List.getElem_toArray, List.getElem_cons_zero, List.getElem_cons_succ]
    refine wpAnyH_take (i := 18) (v := ?_) rfl (by kernel_rfl) (by kernel_rfl) (by kernel_rfl) (fun _ _ _ h => h) (Or.inl ⟨by rfl, ?_⟩) (by assumption) ?_
    rotate_left
    · (intro w9 hS9; try simp only [List.getElem_toArray, List.getElem_cons_zero, List.getElem_cons_succ]
       go_simp <;> rfl)
    try simp only [Act.put, List.setIfInBounds_toArray, List.set_cons_zero, List.set_cons_succ, List.getElem_toArray, List.getElem_cons_zero, List.getElem_cons_succ]
    refine wpAnyH_done (by kernel_rfl) ?_ _
    try simp only [Exit.then]
    clear hHeld
    go_wp2_with fail
    go_ret
    exact ⟨rfl, HO5.out⟩
end Go.Proofs.Ytgfogoplmokilaa
