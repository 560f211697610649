/- A row, and its line by the page. Conditions: those of each theorem. -/
import Derived.Test.YthnjebpbokmemaaDoorTxtA
import Derived.Test.YthnjebpbokmemaaDoorTells31
namespace Go.Proofs.YthnjebpbokmemaaDoor
open Go.RowKit
set_option linter.unusedVariables false

structure RowM where
  id : Int
  script : Int
  from_ : Int
  steps : Int
  looks : Int
  jumps : Int
  read : Int
  taken : Int
  status : Int
  end_ : Int
abbrev rowV (r : RowM) : Array Value := #[.int .i64 r.id, .int .i64 r.script, .int .i64 r.from_, .int .i64 r.steps, .int .i64 r.looks, .int .i64 r.jumps, .int .i64 r.read, .int .i64 r.taken, .int .i64 r.status, .int .i64 r.end_]
structure RowOk (r : RowM) : Prop where
  id : I64 r.id
  script : I64 r.script
  from_ : I64 r.from_
  steps : I64 r.steps
  looks : I64 r.looks
  jumps : I64 r.jumps
  read : I64 r.read
  taken : I64 r.taken
  status : I64 r.status
  end_ : I64 r.end_
/-- how a dialogue stands, as it is told -/
def toldT (n : Int) : List UInt8 := if statusT n = [] then [63] else statusT n
/-- the parts of a row's line -/
def partsT (r : RowM) : List (List UInt8) := [Lib.itoa r.id, Lib.itoa r.script, tickT r.from_, Lib.itoa r.steps, Lib.itoa r.looks, Lib.itoa r.jumps, Lib.itoa r.read, Lib.itoa r.taken, toldT r.status, tickT r.end_]
def lineT (r : RowM) : List UInt8 := Lib.join (partsT r) [32]
/-- a number's text; a tick's text; how a dialogue stands -/
def itS (n : Int) : ByteArray := bs (Lib.itoa n)
def tkS (n : Int) : ByteArray := bs (tickT n)
def stS (n : Int) : ByteArray := bs (statusT n)
theorem itS_size {n : Int} (h : I64 n) : (itS n).size ≤ 21 := by unfold itS; rw [bs_size]; exact itoa_len h.1 h.2
theorem tkS_size {n : Int} (h : I64 n) : (tkS n).size ≤ 21 := by unfold tkS; rw [bs_size]; exact tickT_len h.2
theorem stS_size (n : Int) : (stS n).size ≤ 8 := by unfold stS; rw [bs_size]; exact statusT_len _
theorem bs_list (l : List UInt8) : (bs l).toList = l := by rw [ByteArray.toList_eq]
theorem stS_nil (n : Int) : (stS n).toList.isEmpty = decide (statusT n = []) := by
  unfold stS
  rw [bs_list]
  cases statusT n <;> simp
theorem Num_q (n : Int) (w : World) (h : I64 n) : Calls Tryd.prog 18 #[.int .i64 n] w fun e w' => e = .returned (.string (itS n)) ∧ ∃ q, w' = w.drewN q := by
  refine (Num_c n w h.1 h.2).mono ?_
  rintro e w1 ⟨rfl, rfl⟩
  exact ⟨rfl, 0, rfl⟩
theorem refText_q (n : Int) (w : World) (h : I64 n) : Calls Tryd.prog 19 #[.int .i64 n] w fun e w' => e = .returned (.string (tkS n)) ∧ ∃ q, w' = w.drewN q := by
  refine (refText_c n w h.2).mono ?_
  rintro e w1 ⟨rfl, rfl⟩
  exact ⟨rfl, 0, rfl⟩
/-- what stands ahead of the status -/
def headT (x0 x1 x2 x3 x4 x5 x6 x7 : ByteArray) : ByteArray := x0 ++ (⟨#[32]⟩ : ByteArray) ++ x1 ++ (⟨#[32]⟩ : ByteArray) ++ x2 ++ (⟨#[32]⟩ : ByteArray) ++ x3 ++ (⟨#[32]⟩ : ByteArray) ++ x4 ++ (⟨#[32]⟩ : ByteArray) ++ x5 ++ (⟨#[32]⟩ : ByteArray) ++ x6 ++ (⟨#[32]⟩ : ByteArray) ++ x7 ++ (⟨#[32]⟩ : ByteArray)
theorem sp_size : (⟨#[32]⟩ : ByteArray).size = 1 := rfl
theorem qm_size : (⟨#[63]⟩ : ByteArray).size = 1 := rfl
theorem line_end (r : RowM) (s : ByteArray) (hs : if statusT r.status = [] then s = headT (itS r.id) (itS r.script) (tkS r.from_) (itS r.steps) (itS r.looks) (itS r.jumps) (itS r.read) (itS r.taken) ++ ⟨#[63]⟩ ++ stS r.status else s = headT (itS r.id) (itS r.script) (tkS r.from_) (itS r.steps) (itS r.looks) (itS r.jumps) (itS r.read) (itS r.taken) ++ stS r.status) : s ++ ⟨#[32]⟩ ++ tkS r.end_ = bs (lineT r) := by
  have hq : s = bs (Lib.itoa r.id ++ [32] ++ Lib.itoa r.script ++ [32] ++ tickT r.from_ ++ [32] ++ Lib.itoa r.steps ++ [32] ++ Lib.itoa r.looks ++ [32] ++ Lib.itoa r.jumps ++ [32] ++ Lib.itoa r.read ++ [32] ++ Lib.itoa r.taken ++ [32] ++ toldT r.status) := by
    unfold toldT
    split at hs
    · rename_i h0
      rw [if_pos h0, hs]
      unfold headT stS itS tkS
      rw [h0, show (⟨#[32]⟩ : ByteArray) = bs [32] from rfl, show (⟨#[63]⟩ : ByteArray) = bs [63] from rfl]
      simp only [bs_append]
      simp
    · rename_i h0
      rw [if_neg h0, hs]
      unfold headT stS itS tkS
      rw [show (⟨#[32]⟩ : ByteArray) = bs [32] from rfl]
      simp only [bs_append]
  rw [hq, show (⟨#[32]⟩ : ByteArray) = bs [32] from rfl]
  unfold tkS
  rw [bs_append, bs_append]
  unfold lineT partsT
  simp [Lib.join, List.intercalate]
set_option maxRecDepth 100000 in
set_option maxHeartbeats 3200000 in
theorem refLine_c (r : RowM) (w : World) (hr : RowOk r) : Calls Tryd.prog 7 #[.agg (rowV r)] w fun e w' => e = .returned (.string (bs (lineT r))) ∧ Below w.heap.size w w' := by
  have HE := hide (line_end r)
  obtain ⟨h0, h1, h2, h3, h4, h5, h6, h7, h8, h9⟩ := hr
  obtain ⟨a0, a1, a2, a3, a4, a5, a6, a7, a8, a9⟩ := r
  replace h0 : I64 a0 := h0
  replace h1 : I64 a1 := h1
  replace h2 : I64 a2 := h2
  replace h3 : I64 a3 := h3
  replace h4 : I64 a4 := h4
  replace h5 : I64 a5 := h5
  replace h6 : I64 a6 := h6
  replace h7 : I64 a7 := h7
  replace h8 : I64 a8 := h8
  replace h9 : I64 a9 := h9
  have hst := stS_nil a8
  have n0 := itS_size h0
  have n1 := itS_size h1
  have n2 := tkS_size h2
  have n3 := itS_size h3
  have n4 := itS_size h4
  have n5 := itS_size h5
  have n6 := itS_size h6
  have n7 := itS_size h7
  have ne := tkS_size h9
  have ns := stS_size a8
  have Qs := hide (fun (w : World) => show Calls Tryd.prog 20 #[.int .i64 a8] w (fun e w' => e = .returned (.string (stS a8)) ∧ Below w.heap.size w w') from refStatus_c a8 w)
  have z0 : ((itS a0)).size + (⟨#[32]⟩ : ByteArray).size ≤ 9223372036854775807 := by simp only [sp_size]; omega
  have z1 : ((itS a0) ++ (⟨#[32]⟩ : ByteArray)).size + (itS a1).size ≤ 9223372036854775807 := by simp only [ByteArray.size_append, sp_size]; omega
  have z2 : ((itS a0) ++ (⟨#[32]⟩ : ByteArray) ++ (itS a1)).size + (⟨#[32]⟩ : ByteArray).size ≤ 9223372036854775807 := by simp only [ByteArray.size_append, sp_size]; omega
  have z3 : ((itS a0) ++ (⟨#[32]⟩ : ByteArray) ++ (itS a1) ++ (⟨#[32]⟩ : ByteArray)).size + (tkS a2).size ≤ 9223372036854775807 := by simp only [ByteArray.size_append, sp_size]; omega
  have z4 : ((itS a0) ++ (⟨#[32]⟩ : ByteArray) ++ (itS a1) ++ (⟨#[32]⟩ : ByteArray) ++ (tkS a2)).size + (⟨#[32]⟩ : ByteArray).size ≤ 9223372036854775807 := by simp only [ByteArray.size_append, sp_size]; omega
  have z5 : ((itS a0) ++ (⟨#[32]⟩ : ByteArray) ++ (itS a1) ++ (⟨#[32]⟩ : ByteArray) ++ (tkS a2) ++ (⟨#[32]⟩ : ByteArray)).size + (itS a3).size ≤ 9223372036854775807 := by simp only [ByteArray.size_append, sp_size]; omega
  have z6 : ((itS a0) ++ (⟨#[32]⟩ : ByteArray) ++ (itS a1) ++ (⟨#[32]⟩ : ByteArray) ++ (tkS a2) ++ (⟨#[32]⟩ : ByteArray) ++ (itS a3)).size + (⟨#[32]⟩ : ByteArray).size ≤ 9223372036854775807 := by simp only [ByteArray.size_append, sp_size]; omega
  have z7 : ((itS a0) ++ (⟨#[32]⟩ : ByteArray) ++ (itS a1) ++ (⟨#[32]⟩ : ByteArray) ++ (tkS a2) ++ (⟨#[32]⟩ : ByteArray) ++ (itS a3) ++ (⟨#[32]⟩ : ByteArray)).size + (itS a4).size ≤ 9223372036854775807 := by simp only [ByteArray.size_append, sp_size]; omega
  have z8 : ((itS a0) ++ (⟨#[32]⟩ : ByteArray) ++ (itS a1) ++ (⟨#[32]⟩ : ByteArray) ++ (tkS a2) ++ (⟨#[32]⟩ : ByteArray) ++ (itS a3) ++ (⟨#[32]⟩ : ByteArray) ++ (itS a4)).size + (⟨#[32]⟩ : ByteArray).size ≤ 9223372036854775807 := by simp only [ByteArray.size_append, sp_size]; omega
  have z9 : ((itS a0) ++ (⟨#[32]⟩ : ByteArray) ++ (itS a1) ++ (⟨#[32]⟩ : ByteArray) ++ (tkS a2) ++ (⟨#[32]⟩ : ByteArray) ++ (itS a3) ++ (⟨#[32]⟩ : ByteArray) ++ (itS a4) ++ (⟨#[32]⟩ : ByteArray)).size + (itS a5).size ≤ 9223372036854775807 := by simp only [ByteArray.size_append, sp_size]; omega
  have z10 : ((itS a0) ++ (⟨#[32]⟩ : ByteArray) ++ (itS a1) ++ (⟨#[32]⟩ : ByteArray) ++ (tkS a2) ++ (⟨#[32]⟩ : ByteArray) ++ (itS a3) ++ (⟨#[32]⟩ : ByteArray) ++ (itS a4) ++ (⟨#[32]⟩ : ByteArray) ++ (itS a5)).size + (⟨#[32]⟩ : ByteArray).size ≤ 9223372036854775807 := by simp only [ByteArray.size_append, sp_size]; omega
  have z11 : ((itS a0) ++ (⟨#[32]⟩ : ByteArray) ++ (itS a1) ++ (⟨#[32]⟩ : ByteArray) ++ (tkS a2) ++ (⟨#[32]⟩ : ByteArray) ++ (itS a3) ++ (⟨#[32]⟩ : ByteArray) ++ (itS a4) ++ (⟨#[32]⟩ : ByteArray) ++ (itS a5) ++ (⟨#[32]⟩ : ByteArray)).size + (itS a6).size ≤ 9223372036854775807 := by simp only [ByteArray.size_append, sp_size]; omega
  have z12 : ((itS a0) ++ (⟨#[32]⟩ : ByteArray) ++ (itS a1) ++ (⟨#[32]⟩ : ByteArray) ++ (tkS a2) ++ (⟨#[32]⟩ : ByteArray) ++ (itS a3) ++ (⟨#[32]⟩ : ByteArray) ++ (itS a4) ++ (⟨#[32]⟩ : ByteArray) ++ (itS a5) ++ (⟨#[32]⟩ : ByteArray) ++ (itS a6)).size + (⟨#[32]⟩ : ByteArray).size ≤ 9223372036854775807 := by simp only [ByteArray.size_append, sp_size]; omega
  have z13 : ((itS a0) ++ (⟨#[32]⟩ : ByteArray) ++ (itS a1) ++ (⟨#[32]⟩ : ByteArray) ++ (tkS a2) ++ (⟨#[32]⟩ : ByteArray) ++ (itS a3) ++ (⟨#[32]⟩ : ByteArray) ++ (itS a4) ++ (⟨#[32]⟩ : ByteArray) ++ (itS a5) ++ (⟨#[32]⟩ : ByteArray) ++ (itS a6) ++ (⟨#[32]⟩ : ByteArray)).size + (itS a7).size ≤ 9223372036854775807 := by simp only [ByteArray.size_append, sp_size]; omega
  have z14 : ((itS a0) ++ (⟨#[32]⟩ : ByteArray) ++ (itS a1) ++ (⟨#[32]⟩ : ByteArray) ++ (tkS a2) ++ (⟨#[32]⟩ : ByteArray) ++ (itS a3) ++ (⟨#[32]⟩ : ByteArray) ++ (itS a4) ++ (⟨#[32]⟩ : ByteArray) ++ (itS a5) ++ (⟨#[32]⟩ : ByteArray) ++ (itS a6) ++ (⟨#[32]⟩ : ByteArray) ++ (itS a7)).size + (⟨#[32]⟩ : ByteArray).size ≤ 9223372036854775807 := by simp only [ByteArray.size_append, sp_size]; omega
  have hH : (headT (itS a0) (itS a1) (tkS a2) (itS a3) (itS a4) (itS a5) (itS a6) (itS a7)).size ≤ 200 := by unfold headT; simp only [ByteArray.size_append, sp_size]; omega
  have HH := hide (show headT (itS a0) (itS a1) (tkS a2) (itS a3) (itS a4) (itS a5) (itS a6) (itS a7) = (itS a0) ++ (⟨#[32]⟩ : ByteArray) ++ (itS a1) ++ (⟨#[32]⟩ : ByteArray) ++ (tkS a2) ++ (⟨#[32]⟩ : ByteArray) ++ (itS a3) ++ (⟨#[32]⟩ : ByteArray) ++ (itS a4) ++ (⟨#[32]⟩ : ByteArray) ++ (itS a5) ++ (⟨#[32]⟩ : ByteArray) ++ (itS a6) ++ (⟨#[32]⟩ : ByteArray) ++ (itS a7) ++ (⟨#[32]⟩ : ByteArray) from rfl)
  obtain ⟨W, hW⟩ : ∃ W, W = w.alloc (.cells #[.int .i64 a0, .int .i64 a1, .int .i64 a2, .int .i64 a3, .int .i64 a4, .int .i64 a5, .int .i64 a6, .int .i64 a7, .int .i64 a8, .int .i64 a9] 26) := ⟨_, rfl⟩
  have hL : Below w.heap.size w W := by rw [hW]; exact below_alloc _ _
  have hb : Blk W w.heap.size 26 #[.int .i64 a0, .int .i64 a1, .int .i64 a2, .int .i64 a3, .int .i64 a4, .int .i64 a5, .int .i64 a6, .int .i64 a7, .int .i64 a8, .int .i64 a9] := by rw [hW]; exact Blk.new _ _ _
  have HW := hide hW
  have HL := hide hL
  have HB := hide hb
  clear hW hL hb n0 n1 n2 n3 n4 n5 n6 n7
  go_enter Tryd.func7, Tryd.ntmps7
  go_upto_region 1 with fail
  change Code.wp _ _ _ _ (w.alloc (.cells #[.int .i64 a0, .int .i64 a1, .int .i64 a2, .int .i64 a3, .int .i64 a4, .int .i64 a5, .int .i64 a6, .int .i64 a7, .int .i64 a8, .int .i64 a9] 26))
  rw [← HW.out]
  have y0 : W.cell? ⟨w.heap.size, 0, none⟩ = some (.int .i64 a0) := by rw [HB.out.cell]; rfl
  have y1 : W.cell? ⟨w.heap.size, 1, none⟩ = some (.int .i64 a1) := by rw [HB.out.cell]; rfl
  have y2 : W.cell? ⟨w.heap.size, 2, none⟩ = some (.int .i64 a2) := by rw [HB.out.cell]; rfl
  have y3 : W.cell? ⟨w.heap.size, 3, none⟩ = some (.int .i64 a3) := by rw [HB.out.cell]; rfl
  have y4 : W.cell? ⟨w.heap.size, 4, none⟩ = some (.int .i64 a4) := by rw [HB.out.cell]; rfl
  have y5 : W.cell? ⟨w.heap.size, 5, none⟩ = some (.int .i64 a5) := by rw [HB.out.cell]; rfl
  have y6 : W.cell? ⟨w.heap.size, 6, none⟩ = some (.int .i64 a6) := by rw [HB.out.cell]; rfl
  have y7 : W.cell? ⟨w.heap.size, 7, none⟩ = some (.int .i64 a7) := by rw [HB.out.cell]; rfl
  have y8 : W.cell? ⟨w.heap.size, 8, none⟩ = some (.int .i64 a8) := by rw [HB.out.cell]; rfl
  have y9 : W.cell? ⟨w.heap.size, 9, none⟩ = some (.int .i64 a9) := by rw [HB.out.cell]; rfl
  go_cut [3] from 4 to 42 (fun v wx => v = .string (headT (itS a0) (itS a1) (tkS a2) (itS a3) (itS a4) (itS a5) (itS a6) (itS a7)) ∧ Hid (Below W.heap.size W wx))
  case first =>
    go_quiet (first
      | (go_at_call 18; exact Calls.quiet_of (Num_q _ _ (by assumption)))
      | (go_at_call 19; exact Calls.quiet_of (refText_q _ _ (by assumption))))
    go_wp2_with fail
    go_meet
    exact ⟨by rw [HH.out], hide (below_drewN _ _)⟩
  case rest =>
    obtain ⟨rfl, HB2⟩ := hcut
    clear HH z0 z1 z2 z3 z4 z5 z6 z7 z8 z9 z10 z11 z12 z13 z14
    obtain ⟨H, hHH⟩ : ∃ H, H = headT (itS a0) (itS a1) (tkS a2) (itS a3) (itS a4) (itS a5) (itS a6) (itS a7) := ⟨_, rfl⟩
    have HE2 := hide (show ∀ s, (if statusT a8 = [] then s = H ++ ⟨#[63]⟩ ++ stS a8 else s = H ++ stS a8) → s ++ ⟨#[32]⟩ ++ tkS a9 = bs (lineT ⟨a0, a1, a2, a3, a4, a5, a6, a7, a8, a9⟩) by rw [hHH]; exact HE.out)
    rw [← hHH] at hH ⊢
    clear hHH HE
    obtain ⟨xs, hxs⟩ : ∃ xs, xs = stS a8 := ⟨_, rfl⟩
    rw [← hxs] at hst ns Qs HE2
    obtain ⟨xe, hxe⟩ : ∃ xe, xe = tkS a9 := ⟨_, rfl⟩
    have Q9 := hide (fun (w : World) => show Calls Tryd.prog 19 #[.int .i64 a9] w (fun e w' => e = .returned (.string xe) ∧ ∃ q, w' = w.drewN q) from by rw [hxe]; exact refText_q a9 w h9)
    rw [← hxe] at ne HE2
    clear hxs hxe
    replace y8 := bkeep HB2.out y8
    replace y9 := bkeep HB2.out y9
    go_wp2_with fail
    refine (Qs.out _).mono ?_
    rintro e w3 ⟨rfl, hb3⟩
    have HB3 := hide (HB2.out.trans (hb3.mono HB2.out.size))
    replace y8 := bkeep hb3 y8
    replace y9 := bkeep hb3 y9
    clear hb3
    cases q : xs.toList.isEmpty with
    | true =>
      have z1 : H.size + (⟨#[63]⟩ : ByteArray).size ≤ 9223372036854775807 := by rw [qm_size]; omega
      have z2 : (H ++ (⟨#[63]⟩ : ByteArray)).size + xs.size ≤ 9223372036854775807 := by simp only [ByteArray.size_append, qm_size]; omega
      have z3 : (H ++ (⟨#[63]⟩ : ByteArray) ++ xs).size + (⟨#[32]⟩ : ByteArray).size ≤ 9223372036854775807 := by simp only [ByteArray.size_append, sp_size, qm_size]; omega
      have z4 : (H ++ (⟨#[63]⟩ : ByteArray) ++ xs ++ (⟨#[32]⟩ : ByteArray)).size + xe.size ≤ 9223372036854775807 := by simp only [ByteArray.size_append, sp_size, qm_size]; omega
      have HF := hide (HE2.out (H ++ ⟨#[63]⟩ ++ xs) (by rw [hst] at q; rw [if_pos (by simpa using q)]))
      clear hst HE2
      go_wp2_with fail
      go_region_with
        (first
          | (go_at_call 20
             refine (Qs.out _).mono ?_
             rintro e w4 ⟨rfl, hb4⟩
             have v8 := bkeep hb4 y8
             have v9 := bkeep hb4 y9
             have HB4 := hide ((below_drew' HB3.out).trans (hb4.mono HB3.out.size))
             clear hb4)
          | (go_at_call 19
             refine (Q9.out _).mono ?_
             rintro e w5 ⟨rfl, q5, rfl⟩))
      all_goals
        go_wp2_with fail
        go_ret
        exact ⟨by rw [← HF.out]; rfl, HL.out.trans ((below_drewN' HB4.out _).mono HL.out.size)⟩
    | false =>
      have z2 : H.size + xs.size ≤ 9223372036854775807 := by omega
      have z3 : (H ++ xs).size + (⟨#[32]⟩ : ByteArray).size ≤ 9223372036854775807 := by simp only [ByteArray.size_append, sp_size]; omega
      have z4 : (H ++ xs ++ (⟨#[32]⟩ : ByteArray)).size + xe.size ≤ 9223372036854775807 := by simp only [ByteArray.size_append, sp_size]; omega
      have HF := hide (HE2.out (H ++ xs) (by rw [hst] at q; rw [if_neg (by simpa using q)]))
      clear hst HE2
      go_wp2_with fail
      go_region_with
        (first
          | (go_at_call 20
             refine (Qs.out _).mono ?_
             rintro e w4 ⟨rfl, hb4⟩
             have v8 := bkeep hb4 y8
             have v9 := bkeep hb4 y9
             have HB4 := hide ((below_drew' HB3.out).trans (hb4.mono HB3.out.size))
             clear hb4)
          | (go_at_call 19
             refine (Q9.out _).mono ?_
             rintro e w5 ⟨rfl, q5, rfl⟩))
      all_goals
        go_wp2_with fail
        go_ret
        exact ⟨by rw [← HF.out]; rfl, HL.out.trans ((below_drewN' HB4.out _).mono HL.out.size)⟩
end Go.Proofs.YthnjebpbokmemaaDoor
