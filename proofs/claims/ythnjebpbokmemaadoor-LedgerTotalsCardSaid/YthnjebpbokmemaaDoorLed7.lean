/- ledger.Total: all rows together. Conditions: those of each theorem. -/
import Derived.Test.YthnjebpbokmemaaDoorLed6
import Derived.Test.YthnjebpbokmemaaDoorTellsP
namespace Go.Proofs.YthnjebpbokmemaaDoor
open Go.RowKit
set_option linter.unusedVariables false

/-- a sum in 64 bits -/
def sum64 (a b : Int) : Int := wrap64 (a + b)
/-- one row more -/
def totS (k : Nat) (t r : RowM) : RowM := ⟨t.id, t.script, min t.from_ r.from_, sum64 t.steps r.steps, sum64 t.looks r.looks, sum64 t.jumps r.jumps, sum64 t.read r.read, sum64 t.taken r.taken, if r.status = 0 then sum64 t.status 1 else t.status, if k = 0 ∨ t.end_ < r.end_ then r.end_ else t.end_⟩
/-- the first k rows together, but for how many -/
def tot (L : List RowM) : Nat → RowM
  | 0 => ⟨0, 0, 9223372036854775807, 0, 0, 0, 0, 0, 0, 0⟩
  | k + 1 => totS k (tot L k) (rowAt L k)
def totId (i : Int) (r : RowM) : RowM := ⟨i, r.script, r.from_, r.steps, r.looks, r.jumps, r.read, r.taken, r.status, r.end_⟩
set_option maxRecDepth 100000 in
set_option maxHeartbeats 3200000 in
theorem Total_c (A : Option Addr) (c : Nat) (l : List Ev) (w : World) (hr : Rd w NoBlk A (flat encEv l)) (hn : l.length ≤ 10000) (hx : ∀ x ∈ l, x.s.size ≤ 100) (hlc : l.length ≤ c) :
    Calls Tryd.prog 16 #[.slice A l.length c] w fun e w' => e = .returned (.agg (rowV (totId (rowsL l).length (tot (rowsL l) (rowsL l).length)))) ∧ Below w.heap.size w w' := by
  obtain ⟨W0, hW0⟩ : ∃ W0, W0 = (w.alloc (.cells zeroRowV 23)).alloc (.cells (rowV (totId 0 (tot (rowsL l) 0))) 23) := ⟨_, rfl⟩
  have hL0 : Below w.heap.size w W0 := by rw [hW0]; exact (below_alloc _ _).alloc (by simp) _
  have hb0 : Blk W0 (w.heap.size + 1) 23 (rowV (totId 0 (tot (rowsL l) 0))) := by rw [hW0]; exact Blk.new' (by simp)
  have hz0 : Blk W0 w.heap.size 23 zeroRowV := by rw [hW0]; exact (Blk.new _ _ _).alloc _
  have hC := rowsM_c A c l W0 (hr.below hL0) hn hx hlc
  have hrl : (rowsL l).length ≤ 10000 := by
    have h1 : (rowsL l).length = (idsL l).length := by simp [rowsL]
    have := ids_le l
    omega
  obtain ⟨L, hL⟩ : ∃ L, L = rowsL l := ⟨_, rfl⟩
  rw [← hL] at hC hrl hb0 hW0 ⊢
  obtain ⟨N, hN⟩ : ∃ N, N = L.length := ⟨_, rfl⟩
  rw [← hN] at hC hrl ⊢
  have HN := hide hN
  have HW := hide hW0
  have HL := hide hL0
  have HC := hide hC
  have HB0 := hide hb0
  have HZ0 := hide hz0
  have HR0 : w.heap.size + 1 < W0.heap.size := hb0.lt
  clear hW0 hL0 hC hb0 hz0 hr hx hN hL hlc
  go_enter Tryd.func16, Tryd.ntmps16
  go_upto_region 2 with fail
  change Code.wp _ _ _ _ ((w.alloc (.cells zeroRowV 23)).alloc (.cells (rowV (totId 0 (tot L 0))) 23))
  rw [← HW.out]
  go_wp2_with fail
  refine HC.out.mono ?_
  rintro e w3 ⟨hb3, A3, c3, rfl, hr3⟩
  have HR3 := hide (show Rd w3 (· = w.heap.size + 1) A3 (flat encR L) from hr3.mono (fun b hb => by subst hb; exact HR0))
  have HB3 := hide (HL.out.trans (hb3.mono HL.out.size))
  have HRA := hide (show RowAt w w3 w3 (w.heap.size + 1) (totId 0 (tot L 0)) from ⟨HB0.out.below hb3, Only.refl _ _, HB3.out⟩)
  have HZ3 := hide (HZ0.out.below hb3)
  have hR : w.heap.size ≤ w.heap.size + 1 := by omega
  clear hb3 hr3
  go_wp2_with fail
  go_loopw [10] (fun i wr => ∃ k : Nat, k ≤ N ∧ i = .int .i64 k ∧ Hid (RowAt w w3 wr (w.heap.size + 1) (totId k (tot L k)))) (fun i _ => N - (intOf i).toNat)
  case atStart => exact ⟨0, Nat.zero_le _, rfl, HRA⟩
  case round =>
    obtain ⟨k, hk, rfl, hra⟩ := hrel
    have hwrl := hra.out.blk.lt
    by_cases hlt : k < N
    · obtain ⟨b, o, rfl, hbm, hbl, hcx⟩ := row_cells (HR3.out.only hra.out.only (fun _ h => h)) k (by rw [← HN.out]; exact hlt)
      have Hs := hide (show tot L (k + 1) = totS k (tot L k) (rowAt L k) from rfl)
      obtain ⟨r, hrr⟩ : ∃ r, r = rowAt L k := ⟨_, rfl⟩
      obtain ⟨t, htt⟩ : ∃ t, t = tot L k := ⟨_, rfl⟩
      rw [← hrr] at hcx Hs
      rw [← htt] at hra Hs
      clear hrr htt
      obtain ⟨b0, b1, b2, b3, b4, b5, b6, b7, b8, b9⟩ := r
      obtain ⟨t0, t1, t2, t3, t4, t5, t6, t7, t8, t9⟩ := t
      have x0 : wr.cell? ⟨b, o + k * 10, none⟩ = some (.int .i64 b0) := hcx 0 (by omega)
      have x1 : wr.cell? ⟨b, o + k * 10 + 1, none⟩ = some (.int .i64 b1) := hcx 1 (by omega)
      have x2 : wr.cell? ⟨b, o + k * 10 + 2, none⟩ = some (.int .i64 b2) := hcx 2 (by omega)
      have x3 : wr.cell? ⟨b, o + k * 10 + 3, none⟩ = some (.int .i64 b3) := hcx 3 (by omega)
      have x4 : wr.cell? ⟨b, o + k * 10 + 4, none⟩ = some (.int .i64 b4) := hcx 4 (by omega)
      have x5 : wr.cell? ⟨b, o + k * 10 + 5, none⟩ = some (.int .i64 b5) := hcx 5 (by omega)
      have x6 : wr.cell? ⟨b, o + k * 10 + 6, none⟩ = some (.int .i64 b6) := hcx 6 (by omega)
      have x7 : wr.cell? ⟨b, o + k * 10 + 7, none⟩ = some (.int .i64 b7) := hcx 7 (by omega)
      have x8 : wr.cell? ⟨b, o + k * 10 + 8, none⟩ = some (.int .i64 b8) := hcx 8 (by omega)
      have x9 : wr.cell? ⟨b, o + k * 10 + 9, none⟩ = some (.int .i64 b9) := hcx 9 (by omega)
      have H0 := hide (show RowAt w w3 wr (w.heap.size + 1) ⟨k, t1, t2, t3, t4, t5, t6, t7, t8, t9⟩ from hra.out)
      obtain ⟨y0, y1, y2, y3, y4, y5, y6, y7, y8, y9⟩ := H0.out.blk.tenR
      have hfz := fun i => H0.out.blk.frozen i
      have f0 := hfz 0; have f2 := hfz 2; have f3 := hfz 3; have f4 := hfz 4; have f5 := hfz 5; have f6 := hfz 6; have f7 := hfz 7; have f8 := hfz 8; have f9 := hfz 9
      have ne1 : ¬ wr.heap.size = w.heap.size + 1 := by omega
      have ne2 : ¬ w.heap.size + 1 = wr.heap.size := by omega
      have w1 : IntKind.i64.wrap ((k : Int) + 1) = (k : Int) + 1 := IntWalk.i64_in _ (by omega)
      have j1 : (0 : Int) ≤ (k : Int) := by omega
      have j2 : (k : Int) < (N : Int) := by omega
      have j3 : decide ((k : Int) < (N : Int)) = true := by simp; exact hlt
      have hwr2 : w.heap.size + 1 < wr.heap.size := hwrl
      clear hcx hfz hra
      have H1 := hide ((H0.out.set_ (r' := ⟨(k : Int) + 1, t1, t2, t3, t4, t5, t6, t7, t8, t9⟩) hR 0 (.int .i64 ((k : Int) + 1)) rfl).set_ (r' := ⟨(k : Int) + 1, t1, min t2 b2, t3, t4, t5, t6, t7, t8, t9⟩) hR 2 (.int .i64 (min t2 b2)) rfl)
      cases q3 : (b8 == 0) with
      | true =>
        have Qs := hide (show b8 = 0 by simpa using q3)
        cases q1 : ((k : Int) == 0) with
        | true =>
          have Qe := hide (show k = 0 ∨ t9 < b9 from Or.inl (by have : (k : Int) = 0 := by simpa using q1
                                                                omega))
          have HF := hide (show totId ((k + 1 : Nat) : Int) (tot L (k + 1)) = ⟨(k : Int) + 1, t1, min t2 b2, wrap64 (t3 + b3), wrap64 (t4 + b4), wrap64 (t5 + b5), wrap64 (t6 + b6), wrap64 (t7 + b7), wrap64 (t8 + 1), b9⟩ from by rw [Hs.out]; unfold totS totId sum64; simp only []; rw [if_pos Qs.out, if_pos Qe.out]; simp)
          have HE := hide (show RowAt w w3 _ (w.heap.size + 1) ⟨(k : Int) + 1, t1, min t2 b2, wrap64 (t3 + b3), wrap64 (t4 + b4), wrap64 (t5 + b5), wrap64 (t6 + b6), wrap64 (t7 + b7), wrap64 (t8 + 1), b9⟩ from (((((((H1.out.set_ (r' := ⟨(k : Int) + 1, t1, min t2 b2, t3, t4, t5, t6, t7, t8, b9⟩) hR 9 (.int .i64 (b9)) rfl).set_ (r' := ⟨(k : Int) + 1, t1, min t2 b2, t3, t4, t5, t6, t7, wrap64 (t8 + 1), b9⟩) hR 8 (.int .i64 (wrap64 (t8 + 1))) rfl).set_ (r' := ⟨(k : Int) + 1, t1, min t2 b2, wrap64 (t3 + b3), t4, t5, t6, t7, wrap64 (t8 + 1), b9⟩) hR 3 (.int .i64 (wrap64 (t3 + b3))) rfl).set_ (r' := ⟨(k : Int) + 1, t1, min t2 b2, wrap64 (t3 + b3), wrap64 (t4 + b4), t5, t6, t7, wrap64 (t8 + 1), b9⟩) hR 4 (.int .i64 (wrap64 (t4 + b4))) rfl).set_ (r' := ⟨(k : Int) + 1, t1, min t2 b2, wrap64 (t3 + b3), wrap64 (t4 + b4), wrap64 (t5 + b5), t6, t7, wrap64 (t8 + 1), b9⟩) hR 5 (.int .i64 (wrap64 (t5 + b5))) rfl).set_ (r' := ⟨(k : Int) + 1, t1, min t2 b2, wrap64 (t3 + b3), wrap64 (t4 + b4), wrap64 (t5 + b5), wrap64 (t6 + b6), t7, wrap64 (t8 + 1), b9⟩) hR 6 (.int .i64 (wrap64 (t6 + b6))) rfl).set_ (r' := ⟨(k : Int) + 1, t1, min t2 b2, wrap64 (t3 + b3), wrap64 (t4 + b4), wrap64 (t5 + b5), wrap64 (t6 + b6), wrap64 (t7 + b7), wrap64 (t8 + 1), b9⟩) hR 7 (.int .i64 (wrap64 (t7 + b7))) rfl).alloc (.cells #[.int .i64 b0, .int .i64 b1, .int .i64 b2, .int .i64 b3, .int .i64 b4, .int .i64 b5, .int .i64 b6, .int .i64 b7, .int .i64 b8, .int .i64 b9] 23))
          clear Qs Qe Hs H0 H1
          go_wp2_with fail
          go_roundw
          case rel => exact ⟨k + 1, by omega, by go_num, hide (by rw [HF.out]; exact HE.out)⟩
          case measure => simp [intOf]; omega
        | false =>
          cases q2 : decide (t9 < b9) with
          | true =>
            have Qe := hide (show k = 0 ∨ t9 < b9 from Or.inr (by simpa using q2))
            have HF := hide (show totId ((k + 1 : Nat) : Int) (tot L (k + 1)) = ⟨(k : Int) + 1, t1, min t2 b2, wrap64 (t3 + b3), wrap64 (t4 + b4), wrap64 (t5 + b5), wrap64 (t6 + b6), wrap64 (t7 + b7), wrap64 (t8 + 1), b9⟩ from by rw [Hs.out]; unfold totS totId sum64; simp only []; rw [if_pos Qs.out, if_pos Qe.out]; simp)
            have HE := hide (show RowAt w w3 _ (w.heap.size + 1) ⟨(k : Int) + 1, t1, min t2 b2, wrap64 (t3 + b3), wrap64 (t4 + b4), wrap64 (t5 + b5), wrap64 (t6 + b6), wrap64 (t7 + b7), wrap64 (t8 + 1), b9⟩ from (((((((H1.out.set_ (r' := ⟨(k : Int) + 1, t1, min t2 b2, t3, t4, t5, t6, t7, t8, b9⟩) hR 9 (.int .i64 (b9)) rfl).set_ (r' := ⟨(k : Int) + 1, t1, min t2 b2, t3, t4, t5, t6, t7, wrap64 (t8 + 1), b9⟩) hR 8 (.int .i64 (wrap64 (t8 + 1))) rfl).set_ (r' := ⟨(k : Int) + 1, t1, min t2 b2, wrap64 (t3 + b3), t4, t5, t6, t7, wrap64 (t8 + 1), b9⟩) hR 3 (.int .i64 (wrap64 (t3 + b3))) rfl).set_ (r' := ⟨(k : Int) + 1, t1, min t2 b2, wrap64 (t3 + b3), wrap64 (t4 + b4), t5, t6, t7, wrap64 (t8 + 1), b9⟩) hR 4 (.int .i64 (wrap64 (t4 + b4))) rfl).set_ (r' := ⟨(k : Int) + 1, t1, min t2 b2, wrap64 (t3 + b3), wrap64 (t4 + b4), wrap64 (t5 + b5), t6, t7, wrap64 (t8 + 1), b9⟩) hR 5 (.int .i64 (wrap64 (t5 + b5))) rfl).set_ (r' := ⟨(k : Int) + 1, t1, min t2 b2, wrap64 (t3 + b3), wrap64 (t4 + b4), wrap64 (t5 + b5), wrap64 (t6 + b6), t7, wrap64 (t8 + 1), b9⟩) hR 6 (.int .i64 (wrap64 (t6 + b6))) rfl).set_ (r' := ⟨(k : Int) + 1, t1, min t2 b2, wrap64 (t3 + b3), wrap64 (t4 + b4), wrap64 (t5 + b5), wrap64 (t6 + b6), wrap64 (t7 + b7), wrap64 (t8 + 1), b9⟩) hR 7 (.int .i64 (wrap64 (t7 + b7))) rfl).alloc (.cells #[.int .i64 b0, .int .i64 b1, .int .i64 b2, .int .i64 b3, .int .i64 b4, .int .i64 b5, .int .i64 b6, .int .i64 b7, .int .i64 b8, .int .i64 b9] 23))
            clear Qs Qe Hs H0 H1
            go_wp2_with fail
            go_roundw
            case rel => exact ⟨k + 1, by omega, by go_num, hide (by rw [HF.out]; exact HE.out)⟩
            case measure => simp [intOf]; omega
          | false =>
            have Qe := hide (show ¬ (k = 0 ∨ t9 < b9) from fun h => by
              rcases h with h | h
              · subst h; simp at q1
              · have : ¬ t9 < b9 := by simpa using q2
                exact this h)
            have HF := hide (show totId ((k + 1 : Nat) : Int) (tot L (k + 1)) = ⟨(k : Int) + 1, t1, min t2 b2, wrap64 (t3 + b3), wrap64 (t4 + b4), wrap64 (t5 + b5), wrap64 (t6 + b6), wrap64 (t7 + b7), wrap64 (t8 + 1), t9⟩ from by rw [Hs.out]; unfold totS totId sum64; simp only []; rw [if_pos Qs.out, if_neg Qe.out]; simp)
            have HE := hide (show RowAt w w3 _ (w.heap.size + 1) ⟨(k : Int) + 1, t1, min t2 b2, wrap64 (t3 + b3), wrap64 (t4 + b4), wrap64 (t5 + b5), wrap64 (t6 + b6), wrap64 (t7 + b7), wrap64 (t8 + 1), t9⟩ from ((((((H1.out.set_ (r' := ⟨(k : Int) + 1, t1, min t2 b2, t3, t4, t5, t6, t7, wrap64 (t8 + 1), t9⟩) hR 8 (.int .i64 (wrap64 (t8 + 1))) rfl).set_ (r' := ⟨(k : Int) + 1, t1, min t2 b2, wrap64 (t3 + b3), t4, t5, t6, t7, wrap64 (t8 + 1), t9⟩) hR 3 (.int .i64 (wrap64 (t3 + b3))) rfl).set_ (r' := ⟨(k : Int) + 1, t1, min t2 b2, wrap64 (t3 + b3), wrap64 (t4 + b4), t5, t6, t7, wrap64 (t8 + 1), t9⟩) hR 4 (.int .i64 (wrap64 (t4 + b4))) rfl).set_ (r' := ⟨(k : Int) + 1, t1, min t2 b2, wrap64 (t3 + b3), wrap64 (t4 + b4), wrap64 (t5 + b5), t6, t7, wrap64 (t8 + 1), t9⟩) hR 5 (.int .i64 (wrap64 (t5 + b5))) rfl).set_ (r' := ⟨(k : Int) + 1, t1, min t2 b2, wrap64 (t3 + b3), wrap64 (t4 + b4), wrap64 (t5 + b5), wrap64 (t6 + b6), t7, wrap64 (t8 + 1), t9⟩) hR 6 (.int .i64 (wrap64 (t6 + b6))) rfl).set_ (r' := ⟨(k : Int) + 1, t1, min t2 b2, wrap64 (t3 + b3), wrap64 (t4 + b4), wrap64 (t5 + b5), wrap64 (t6 + b6), wrap64 (t7 + b7), wrap64 (t8 + 1), t9⟩) hR 7 (.int .i64 (wrap64 (t7 + b7))) rfl).alloc (.cells #[.int .i64 b0, .int .i64 b1, .int .i64 b2, .int .i64 b3, .int .i64 b4, .int .i64 b5, .int .i64 b6, .int .i64 b7, .int .i64 b8, .int .i64 b9] 23))
            clear Qs Qe Hs H0 H1
            go_wp2_with fail
            go_roundw
            case rel => exact ⟨k + 1, by omega, by go_num, hide (by rw [HF.out]; exact HE.out)⟩
            case measure => simp [intOf]; omega
      | false =>
        have Qs := hide (show ¬ b8 = 0 by simpa using q3)
        cases q1 : ((k : Int) == 0) with
        | true =>
          have Qe := hide (show k = 0 ∨ t9 < b9 from Or.inl (by have : (k : Int) = 0 := by simpa using q1
                                                                omega))
          have HF := hide (show totId ((k + 1 : Nat) : Int) (tot L (k + 1)) = ⟨(k : Int) + 1, t1, min t2 b2, wrap64 (t3 + b3), wrap64 (t4 + b4), wrap64 (t5 + b5), wrap64 (t6 + b6), wrap64 (t7 + b7), t8, b9⟩ from by rw [Hs.out]; unfold totS totId sum64; simp only []; rw [if_neg Qs.out, if_pos Qe.out]; simp)
          have HE := hide (show RowAt w w3 _ (w.heap.size + 1) ⟨(k : Int) + 1, t1, min t2 b2, wrap64 (t3 + b3), wrap64 (t4 + b4), wrap64 (t5 + b5), wrap64 (t6 + b6), wrap64 (t7 + b7), t8, b9⟩ from ((((((H1.out.set_ (r' := ⟨(k : Int) + 1, t1, min t2 b2, t3, t4, t5, t6, t7, t8, b9⟩) hR 9 (.int .i64 (b9)) rfl).set_ (r' := ⟨(k : Int) + 1, t1, min t2 b2, wrap64 (t3 + b3), t4, t5, t6, t7, t8, b9⟩) hR 3 (.int .i64 (wrap64 (t3 + b3))) rfl).set_ (r' := ⟨(k : Int) + 1, t1, min t2 b2, wrap64 (t3 + b3), wrap64 (t4 + b4), t5, t6, t7, t8, b9⟩) hR 4 (.int .i64 (wrap64 (t4 + b4))) rfl).set_ (r' := ⟨(k : Int) + 1, t1, min t2 b2, wrap64 (t3 + b3), wrap64 (t4 + b4), wrap64 (t5 + b5), t6, t7, t8, b9⟩) hR 5 (.int .i64 (wrap64 (t5 + b5))) rfl).set_ (r' := ⟨(k : Int) + 1, t1, min t2 b2, wrap64 (t3 + b3), wrap64 (t4 + b4), wrap64 (t5 + b5), wrap64 (t6 + b6), t7, t8, b9⟩) hR 6 (.int .i64 (wrap64 (t6 + b6))) rfl).set_ (r' := ⟨(k : Int) + 1, t1, min t2 b2, wrap64 (t3 + b3), wrap64 (t4 + b4), wrap64 (t5 + b5), wrap64 (t6 + b6), wrap64 (t7 + b7), t8, b9⟩) hR 7 (.int .i64 (wrap64 (t7 + b7))) rfl).alloc (.cells #[.int .i64 b0, .int .i64 b1, .int .i64 b2, .int .i64 b3, .int .i64 b4, .int .i64 b5, .int .i64 b6, .int .i64 b7, .int .i64 b8, .int .i64 b9] 23))
          clear Qs Qe Hs H0 H1
          go_wp2_with fail
          go_roundw
          case rel => exact ⟨k + 1, by omega, by go_num, hide (by rw [HF.out]; exact HE.out)⟩
          case measure => simp [intOf]; omega
        | false =>
          cases q2 : decide (t9 < b9) with
          | true =>
            have Qe := hide (show k = 0 ∨ t9 < b9 from Or.inr (by simpa using q2))
            have HF := hide (show totId ((k + 1 : Nat) : Int) (tot L (k + 1)) = ⟨(k : Int) + 1, t1, min t2 b2, wrap64 (t3 + b3), wrap64 (t4 + b4), wrap64 (t5 + b5), wrap64 (t6 + b6), wrap64 (t7 + b7), t8, b9⟩ from by rw [Hs.out]; unfold totS totId sum64; simp only []; rw [if_neg Qs.out, if_pos Qe.out]; simp)
            have HE := hide (show RowAt w w3 _ (w.heap.size + 1) ⟨(k : Int) + 1, t1, min t2 b2, wrap64 (t3 + b3), wrap64 (t4 + b4), wrap64 (t5 + b5), wrap64 (t6 + b6), wrap64 (t7 + b7), t8, b9⟩ from ((((((H1.out.set_ (r' := ⟨(k : Int) + 1, t1, min t2 b2, t3, t4, t5, t6, t7, t8, b9⟩) hR 9 (.int .i64 (b9)) rfl).set_ (r' := ⟨(k : Int) + 1, t1, min t2 b2, wrap64 (t3 + b3), t4, t5, t6, t7, t8, b9⟩) hR 3 (.int .i64 (wrap64 (t3 + b3))) rfl).set_ (r' := ⟨(k : Int) + 1, t1, min t2 b2, wrap64 (t3 + b3), wrap64 (t4 + b4), t5, t6, t7, t8, b9⟩) hR 4 (.int .i64 (wrap64 (t4 + b4))) rfl).set_ (r' := ⟨(k : Int) + 1, t1, min t2 b2, wrap64 (t3 + b3), wrap64 (t4 + b4), wrap64 (t5 + b5), t6, t7, t8, b9⟩) hR 5 (.int .i64 (wrap64 (t5 + b5))) rfl).set_ (r' := ⟨(k : Int) + 1, t1, min t2 b2, wrap64 (t3 + b3), wrap64 (t4 + b4), wrap64 (t5 + b5), wrap64 (t6 + b6), t7, t8, b9⟩) hR 6 (.int .i64 (wrap64 (t6 + b6))) rfl).set_ (r' := ⟨(k : Int) + 1, t1, min t2 b2, wrap64 (t3 + b3), wrap64 (t4 + b4), wrap64 (t5 + b5), wrap64 (t6 + b6), wrap64 (t7 + b7), t8, b9⟩) hR 7 (.int .i64 (wrap64 (t7 + b7))) rfl).alloc (.cells #[.int .i64 b0, .int .i64 b1, .int .i64 b2, .int .i64 b3, .int .i64 b4, .int .i64 b5, .int .i64 b6, .int .i64 b7, .int .i64 b8, .int .i64 b9] 23))
            clear Qs Qe Hs H0 H1
            go_wp2_with fail
            go_roundw
            case rel => exact ⟨k + 1, by omega, by go_num, hide (by rw [HF.out]; exact HE.out)⟩
            case measure => simp [intOf]; omega
          | false =>
            have Qe := hide (show ¬ (k = 0 ∨ t9 < b9) from fun h => by
              rcases h with h | h
              · subst h; simp at q1
              · have : ¬ t9 < b9 := by simpa using q2
                exact this h)
            have HF := hide (show totId ((k + 1 : Nat) : Int) (tot L (k + 1)) = ⟨(k : Int) + 1, t1, min t2 b2, wrap64 (t3 + b3), wrap64 (t4 + b4), wrap64 (t5 + b5), wrap64 (t6 + b6), wrap64 (t7 + b7), t8, t9⟩ from by rw [Hs.out]; unfold totS totId sum64; simp only []; rw [if_neg Qs.out, if_neg Qe.out]; simp)
            have HE := hide (show RowAt w w3 _ (w.heap.size + 1) ⟨(k : Int) + 1, t1, min t2 b2, wrap64 (t3 + b3), wrap64 (t4 + b4), wrap64 (t5 + b5), wrap64 (t6 + b6), wrap64 (t7 + b7), t8, t9⟩ from (((((H1.out.set_ (r' := ⟨(k : Int) + 1, t1, min t2 b2, wrap64 (t3 + b3), t4, t5, t6, t7, t8, t9⟩) hR 3 (.int .i64 (wrap64 (t3 + b3))) rfl).set_ (r' := ⟨(k : Int) + 1, t1, min t2 b2, wrap64 (t3 + b3), wrap64 (t4 + b4), t5, t6, t7, t8, t9⟩) hR 4 (.int .i64 (wrap64 (t4 + b4))) rfl).set_ (r' := ⟨(k : Int) + 1, t1, min t2 b2, wrap64 (t3 + b3), wrap64 (t4 + b4), wrap64 (t5 + b5), t6, t7, t8, t9⟩) hR 5 (.int .i64 (wrap64 (t5 + b5))) rfl).set_ (r' := ⟨(k : Int) + 1, t1, min t2 b2, wrap64 (t3 + b3), wrap64 (t4 + b4), wrap64 (t5 + b5), wrap64 (t6 + b6), t7, t8, t9⟩) hR 6 (.int .i64 (wrap64 (t6 + b6))) rfl).set_ (r' := ⟨(k : Int) + 1, t1, min t2 b2, wrap64 (t3 + b3), wrap64 (t4 + b4), wrap64 (t5 + b5), wrap64 (t6 + b6), wrap64 (t7 + b7), t8, t9⟩) hR 7 (.int .i64 (wrap64 (t7 + b7))) rfl).alloc (.cells #[.int .i64 b0, .int .i64 b1, .int .i64 b2, .int .i64 b3, .int .i64 b4, .int .i64 b5, .int .i64 b6, .int .i64 b7, .int .i64 b8, .int .i64 b9] 23))
            clear Qs Qe Hs H0 H1
            go_wp2_with fail
            go_roundw
            case rel => exact ⟨k + 1, by omega, by go_num, hide (by rw [HF.out]; exact HE.out)⟩
            case measure => simp [intOf]; omega
    · have hke : k = N := by omega
      subst hke
      have hd : decide ((k : Int) < (k : Int)) = false := by simp
      have hd2 : decide (k < k) = false := by simp
      have hra1 := hra.out
      obtain ⟨r, hr⟩ : ∃ r, r = totId (k : Int) (tot L k) := ⟨_, rfl⟩
      rw [← hr] at hra1
      have HE := hide (show rowV (totId (k : Int) (tot L k)) = rowV r from by rw [hr])
      obtain ⟨a0, a1, a2, a3, a4, a5, a6, a7, a8, a9⟩ := r
      obtain ⟨y0, y1, y2, y3, y4, y5, y6, y7, y8, y9⟩ := hra1.blk.tenR
      have HZw := hide (HZ3.out.only hra1.only (by omega))
      obtain ⟨x0, x1, x2, x3, x4, x5, x6, x7, x8, x9⟩ := HZw.out.tenR
      have hfz := fun i => HZw.out.frozen i
      have f0 := hfz 0; have f1 := hfz 1; have f2 := hfz 2; have f3 := hfz 3; have f4 := hfz 4; have f5 := hfz 5; have f6 := hfz 6; have f7 := hfz 7; have f8 := hfz 8; have f9 := hfz 9
      have HBl := hide hra1.bel
      clear hfz hra1 hra hr HRA HR3 HB3
      go_wp2_with fail
      obtain ⟨wz, hz⟩ : ∃ wz, wz = ((((((((((wr.setCell ⟨w.heap.size, 0, none⟩ (.int .i64 a0)).setCell ⟨w.heap.size, 1, none⟩ (.int .i64 a1)).setCell ⟨w.heap.size, 2, none⟩ (.int .i64 a2)).setCell ⟨w.heap.size, 3, none⟩ (.int .i64 a3)).setCell ⟨w.heap.size, 4, none⟩ (.int .i64 a4)).setCell ⟨w.heap.size, 5, none⟩ (.int .i64 a5)).setCell ⟨w.heap.size, 6, none⟩ (.int .i64 a6)).setCell ⟨w.heap.size, 7, none⟩ (.int .i64 a7)).setCell ⟨w.heap.size, 8, none⟩ (.int .i64 a8)).setCell ⟨w.heap.size, 9, none⟩ (.int .i64 a9)) := ⟨_, rfl⟩
      have tB : Blk wz w.heap.size 23 #[.int .i64 a0, .int .i64 a1, .int .i64 a2, .int .i64 a3, .int .i64 a4, .int .i64 a5, .int .i64 a6, .int .i64 a7, .int .i64 a8, .int .i64 a9] := by rw [hz]; exact HZw.out.put10 (.int .i64 a0) (.int .i64 a1) (.int .i64 a2) (.int .i64 a3) (.int .i64 a4) (.int .i64 a5) (.int .i64 a6) (.int .i64 a7) (.int .i64 a8) (.int .i64 a9)
      have lB := hide (show Below w.heap.size w wz from by rw [hz]; exact below_put10 HBl.out (Nat.le_refl _) (.int .i64 a0) (.int .i64 a1) (.int .i64 a2) (.int .i64 a3) (.int .i64 a4) (.int .i64 a5) (.int .i64 a6) (.int .i64 a7) (.int .i64 a8) (.int .i64 a9))
      rw [← hz]
      clear hz y0 y1 y2 y3 y4 y5 y6 y7 y8 y9 x0 x1 x2 x3 x4 x5 x6 x7 x8 x9 f0 f1 f2 f3 f4 f5 f6 f7 f8 f9
      obtain ⟨z0, z1, z2, z3, z4, z5, z6, z7, z8, z9⟩ := tB.tenR
      refine bodyPost_ret (v := .agg #[.int .i64 a0, .int .i64 a1, .int .i64 a2, .int .i64 a3, .int .i64 a4, .int .i64 a5, .int .i64 a6, .int .i64 a7, .int .i64 a8, .int .i64 a9]) (by simp [results, Tryd.results16, go_sem, z0, z1, z2, z3, z4, z5, z6, z7, z8, z9]) rfl ?_
      exact ⟨by rw [HE.out], lB.out⟩
end Go.Proofs.YthnjebpbokmemaaDoor
