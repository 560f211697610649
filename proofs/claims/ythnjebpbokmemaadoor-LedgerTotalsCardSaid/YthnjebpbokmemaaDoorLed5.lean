/- All rows as text: the walks. Conditions: those of each theorem. -/
import Derived.Test.YthnjebpbokmemaaDoorLed4
namespace Go.Proofs.YthnjebpbokmemaaDoor
open Go.RowKit
set_option linter.unusedVariables false

theorem bkeepC {B : Nat} {w0 w1 : World} {b : Nat} (h : Below B w0 w1) (hb : b < B) (o : Nat) : w1.cell? ⟨b, o, none⟩ = w0.cell? ⟨b, o, none⟩ := h.cell (p := ⟨b, o, none⟩) hb
set_option maxRecDepth 100000 in
set_option maxHeartbeats 3200000 in
theorem refTable_c (A : Option Addr) (c : Nat) (l : List Ev) (w : World) (hr : Rd w NoBlk A (flat encEv l)) (hn : l.length ≤ 10000) (hx : ∀ x ∈ l, x.s.size ≤ 100) (hok : ∀ x ∈ l, EvOk x) :
    Calls Tryd.prog 13 #[.slice A l.length c] w fun e w' => e = .returned (.string (bs (tableT (rowsL l)))) ∧ Below w.heap.size w w' := by
  have HRw := hide (refRows_c A c l w hr hn hx)
  have hro := rows_ok hok hn hx
  have hil := ids_le l
  have hrl : (rowsL l).length = (idsL l).length := by simp [rowsL]
  obtain ⟨L, hL⟩ : ∃ L, L = rowsL l := ⟨_, rfl⟩
  rw [← hL] at HRw hro hrl ⊢
  have hN10 : L.length ≤ 10000 := by omega
  obtain ⟨N, hN⟩ : ∃ N, N = L.length := ⟨_, rfl⟩
  rw [← hN] at HRw hN10
  have HN := hide hN
  have HRo := hide hro
  clear hr hx hok hro hL hN hil hrl
  go_enter Tryd.func13, Tryd.ntmps13
  go_wp2_with fail
  refine HRw.out.mono ?_
  rintro e w1 ⟨hb1, A1, c1, rfl, hr1⟩
  have HB1 := hide hb1
  have HR1 := hide hr1
  clear hb1 hr1
  go_wp2_with fail
  go_loopw [3, 5] (fun s i wr => ∃ k : Nat, k ≤ N ∧ i = .int .i64 k ∧ s = .string (bs (tableT (L.take k))) ∧ Hid (Below w1.heap.size w1 wr)) (fun _ i _ => N - (intOf i).toNat)
  case atStart => exact ⟨0, Nat.zero_le _, rfl, rfl, hide (Below.refl _ _)⟩
  case round =>
    obtain ⟨k, hk, rfl, rfl, hbel⟩ := hrel
    by_cases hlt : k < N
    · obtain ⟨b, o, rfl, _, hbl, hc⟩ := row_cells HR1.out k (by rw [← HN.out]; exact hlt)
      have HC := fun j (hj : j < 10) => (bkeepC hbel.out hbl (o + k * 10 + j)).trans (hc j hj)
      have hro1 := HRo.out (rowAt L k) (by
        have e : rowAt L k = L[k]'(by rw [← HN.out]; exact hlt) := by simp [rowAt, List.getD, show k < L.length by rw [← HN.out]; exact hlt]
        rw [e]; exact List.getElem_mem _)
      have HS := hide (table_succ L k (by rw [← HN.out]; exact hlt))
      have htl := table_len (L.take k) (fun r hr => HRo.out r (List.mem_of_mem_take hr))
      rw [List.length_take] at htl
      have hll := line_len _ hro1
      have hLn := refLine_c (rowAt L k) wr hro1
      obtain ⟨r, hrr⟩ : ∃ r, r = rowAt L k := ⟨_, rfl⟩
      rw [← hrr] at HC HS hLn hll
      clear hrr hro1
      obtain ⟨ln, hln⟩ : ∃ ln, ln = lineT r := ⟨_, rfl⟩
      rw [← hln] at HS hLn hll
      clear hln
      obtain ⟨a0, a1, a2, a3, a4, a5, a6, a7, a8, a9⟩ := r
      have g0 : wr.cell? ⟨b, o + k * 10, none⟩ = some (.int .i64 a0) := HC 0 (by omega)
      have g1 : wr.cell? ⟨b, o + k * 10 + 1, none⟩ = some (.int .i64 a1) := HC 1 (by omega)
      have g2 : wr.cell? ⟨b, o + k * 10 + 2, none⟩ = some (.int .i64 a2) := HC 2 (by omega)
      have g3 : wr.cell? ⟨b, o + k * 10 + 3, none⟩ = some (.int .i64 a3) := HC 3 (by omega)
      have g4 : wr.cell? ⟨b, o + k * 10 + 4, none⟩ = some (.int .i64 a4) := HC 4 (by omega)
      have g5 : wr.cell? ⟨b, o + k * 10 + 5, none⟩ = some (.int .i64 a5) := HC 5 (by omega)
      have g6 : wr.cell? ⟨b, o + k * 10 + 6, none⟩ = some (.int .i64 a6) := HC 6 (by omega)
      have g7 : wr.cell? ⟨b, o + k * 10 + 7, none⟩ = some (.int .i64 a7) := HC 7 (by omega)
      have g8 : wr.cell? ⟨b, o + k * 10 + 8, none⟩ = some (.int .i64 a8) := HC 8 (by omega)
      have g9 : wr.cell? ⟨b, o + k * 10 + 9, none⟩ = some (.int .i64 a9) := HC 9 (by omega)
      have HLn := hide (show Calls Tryd.prog 7 #[.agg #[.int .i64 a0, .int .i64 a1, .int .i64 a2, .int .i64 a3, .int .i64 a4, .int .i64 a5, .int .i64 a6, .int .i64 a7, .int .i64 a8, .int .i64 a9]] wr (fun e w' => e = .returned (.string (bs ln)) ∧ Below wr.heap.size wr w') from hLn)
      obtain ⟨tb, htb⟩ : ∃ tb, tb = tableT (L.take k) := ⟨_, rfl⟩
      rw [← htb] at HS htl ⊢
      clear htb HC hc hLn
      have z0 : (bs tb).size + (bs ln).size ≤ 9223372036854775807 := by rw [bs_size, bs_size]; omega
      have z1 : (bs tb ++ bs ln).size + (⟨#[10]⟩ : ByteArray).size ≤ 9223372036854775807 := by rw [bs_append, bs_size, show (⟨#[10]⟩ : ByteArray).size = 1 from rfl]; simp; omega
      have HT := hide (show bs tb ++ bs ln ++ (⟨#[10]⟩ : ByteArray) = bs (tableT (L.take (k + 1))) by rw [HS.out, show (⟨#[10]⟩ : ByteArray) = bs [10] from rfl, bs_append, bs_append])
      have j1 : (0 : Int) ≤ (k : Int) := by omega
      have j2 : (k : Int) < (N : Int) := by omega
      have j3 : decide ((k : Int) < (N : Int)) = true := by simp; exact hlt
      clear HS
      go_wp2_with fail
      refine HLn.out.mono ?_
      rintro e w2 ⟨rfl, hb2⟩
      have HB2 := hide (hbel.out.trans (hb2.mono hbel.out.size))
      clear hb2 g0 g1 g2 g3 g4 g5 g6 g7 g8 g9
      go_wp2_with fail
      go_roundw
      case rel => exact ⟨k + 1, by omega, by go_num, by rw [HT.out], HB2⟩
      case measure => simp [intOf]; omega
    · have hke : k = N := by omega
      subst hke
      have hd : decide ((k : Int) < (k : Int)) = false := by simp
      have hd2 : decide (k < k) = false := by simp
      have ht : L.take k = L := List.take_of_length_le (by rw [← HN.out]; omega)
      have HT := hide (show tableT (L.take k) = tableT L by rw [ht])
      clear ht
      go_wp2_with fail
      go_ret
      exact ⟨by rw [← HT.out]; rfl, HB1.out.trans (hbel.out.mono HB1.out.size)⟩
set_option maxRecDepth 100000 in
set_option maxHeartbeats 3200000 in
theorem Table_c (A : Option Addr) (c : Nat) (l : List Ev) (w : World) (hr : Rd w NoBlk A (flat encEv l)) (hn : l.length ≤ 10000) (hx : ∀ x ∈ l, x.s.size ≤ 100) (hlc : l.length ≤ c) (hok : ∀ x ∈ l, EvOk x) (ht : Tab w) :
    Calls Tryd.prog 12 #[.slice A l.length c] w fun e w' => e = .returned (.string (bs (tableT (rowsL l)))) ∧ Below w.heap.size w w' := by
  obtain ⟨W, hW⟩ : ∃ W, W = w.alloc (.cells #[.pointer none, .slice none 0 0] 62) := ⟨_, rfl⟩
  have hLb : Below w.heap.size w W := by rw [hW]; exact below_alloc _ _
  have hbb : Blk W w.heap.size 62 #[.pointer none, .slice none 0 0] := by rw [hW]; exact Blk.new _ _ _
  have HRw := hide (rows_c A c l W (hr.below hLb) hn hx hlc)
  have hro := rows_ok hok hn hx
  have hil := ids_le l
  have hrl : (rowsL l).length = (idsL l).length := by simp [rowsL]
  have HT0 := hide (ht.below hLb)
  have HT00 := hide ht
  obtain ⟨L, hL⟩ : ∃ L, L = rowsL l := ⟨_, rfl⟩
  rw [← hL] at HRw hro hrl ⊢
  have hN10 : L.length ≤ 10000 := by omega
  obtain ⟨N, hN⟩ : ∃ N, N = L.length := ⟨_, rfl⟩
  rw [← hN] at HRw hN10
  have HN := hide hN
  have HRo := hide hro
  have HW := hide hW
  have HL := hide hLb
  have HBb := hide hbb
  have hlt0 := hbb.lt
  clear hr hx hok hro hL hN hil hrl hW hLb ht hbb
  go_enter Tryd.func12, Tryd.ntmps12
  go_wp2_with fail
  change Calls _ _ _ (w.alloc (.cells #[.pointer none, .slice none 0 0] 62)) _
  rw [← HW.out]
  refine HRw.out.mono ?_
  rintro e w1 ⟨hb1, A1, c1, rfl, hr1⟩
  have HB1 := hide hb1
  have HR1 := hide (show Rd w1 (· = w.heap.size) A1 (flat encR L) from by
    rcases hr1 with h | ⟨b9, o9, hA, hm9, hb9, hc9⟩
    · exact Or.inl h
    · by_cases hx0 : (flat encR L).length = 0
      · exact Or.inl (List.eq_nil_of_length_eq_zero hx0)
      · refine Or.inr ⟨b9, o9, hA, fun e => ?_, hb9, hc9⟩
        subst e
        have h0 := hc9 0 (by omega)
        rw [(HBb.out.below hb1).cell, List.getElem?_eq_getElem (by omega)] at h0
        rw [flat_len encR 10 encR_len] at hx0
        have hL0 : 0 < L.length := by omega
        have hf := flat_at encR 10 encR_len L 0 0 _ (show L[0]? = some (rowAt L 0) by simp [rowAt, List.getD, hL0]) (by omega)
        simp only [Nat.zero_mul, Nat.add_zero] at hf
        rw [List.getElem?_eq_getElem (by rw [flat_len encR 10 encR_len]; omega)] at hf
        injection hf with hf
        rw [hf] at h0
        have ho9 : o9 + 0 < 2 := by
          rcases Nat.lt_or_ge (o9 + 0) 2 with h | h
          · exact h
          · rw [Array.getElem?_eq_none (by simpa using h)] at h0; cases h0
        have h2 : o9 = 0 ∨ o9 = 1 := by omega
        rcases h2 with rfl | rfl
        · simp at h0
        · simp at h0)
  have HBu := hide (show BufAt w1.heap.size w.heap.size (Lib.byteCells (tableT (L.take 0))) w1 from ⟨_, _, Or.inl rfl, HBb.out.below hb1, ⟨rfl, Or.inl ⟨rfl, rfl⟩⟩, by simp [Value.ownBlock]⟩)
  have hlt1 : w.heap.size < w1.heap.size := Nat.lt_of_lt_of_le hlt0 hb1.size
  have HT1 := hide (HT0.out.below hb1)
  clear hb1 hr1
  go_wp2_with fail
  go_loopw [9] (fun i wr => ∃ k : Nat, k ≤ N ∧ i = .int .i64 k ∧ Hid (BufAt w1.heap.size w.heap.size (Lib.byteCells (tableT (L.take k))) wr) ∧ Hid (Only (Keep w1.heap.size w.heap.size) w1 wr) ∧ Hid (Below w.heap.size w wr)) (fun i _ => N - (intOf i).toNat)
  case atStart => exact ⟨0, Nat.zero_le _, rfl, HBu, hide (Only.refl _ _), hide (HL.out.trans (HB1.out.mono HL.out.size))⟩
  case round =>
    obtain ⟨k, hk, rfl, hbu, hon, hbel⟩ := hrel
    by_cases hlt : k < N
    · have hrr0 : Rd wr (· = w.heap.size) A1 (flat encR L) := by
        rcases HR1.out with h | ⟨b9, o9, hA, hm9, hb9, hc9⟩
        · exact Or.inl h
        · exact Or.inr ⟨b9, o9, hA, hm9, Nat.lt_of_lt_of_le hb9 hon.out.size, fun j hj => (hon.out.cell (p := ⟨b9, o9 + j, none⟩) hb9 (fun h => by
          rcases h with h | h
          · exact hm9 h
          · have h2 : w1.heap.size ≤ b9 := h
            omega)).trans (hc9 j hj)⟩
      obtain ⟨b, o, rfl, hbm, hbl, HC⟩ := row_cells hrr0 k (by rw [← HN.out]; exact hlt)
      have hro1 := HRo.out (rowAt L k) (by
        have e : rowAt L k = L[k]'(by rw [← HN.out]; exact hlt) := by simp [rowAt, List.getD, show k < L.length by rw [← HN.out]; exact hlt]
        rw [e]; exact List.getElem_mem _)
      have HS := hide (table_succ L k (by rw [← HN.out]; exact hlt))
      have htl := table_len (L.take k) (fun r hr => HRo.out r (List.mem_of_mem_take hr))
      rw [List.length_take] at htl
      have hll := line_len _ hro1
      obtain ⟨r, hrr⟩ : ∃ r, r = rowAt L k := ⟨_, rfl⟩
      rw [← hrr] at HC HS hll hro1
      clear hrr
      have HLn0 := hide (fun (w' : World) (ht : Tab w') => line_c r w' hro1 ht)
      obtain ⟨ln, hln⟩ : ∃ ln, ln = lineT r := ⟨_, rfl⟩
      rw [← hln] at HS HLn0 hll
      clear hln hro1
      obtain ⟨a0, a1, a2, a3, a4, a5, a6, a7, a8, a9⟩ := r
      have g0 : wr.cell? ⟨b, o + k * 10, none⟩ = some (.int .i64 a0) := HC 0 (by omega)
      have g1 : wr.cell? ⟨b, o + k * 10 + 1, none⟩ = some (.int .i64 a1) := HC 1 (by omega)
      have g2 : wr.cell? ⟨b, o + k * 10 + 2, none⟩ = some (.int .i64 a2) := HC 2 (by omega)
      have g3 : wr.cell? ⟨b, o + k * 10 + 3, none⟩ = some (.int .i64 a3) := HC 3 (by omega)
      have g4 : wr.cell? ⟨b, o + k * 10 + 4, none⟩ = some (.int .i64 a4) := HC 4 (by omega)
      have g5 : wr.cell? ⟨b, o + k * 10 + 5, none⟩ = some (.int .i64 a5) := HC 5 (by omega)
      have g6 : wr.cell? ⟨b, o + k * 10 + 6, none⟩ = some (.int .i64 a6) := HC 6 (by omega)
      have g7 : wr.cell? ⟨b, o + k * 10 + 7, none⟩ = some (.int .i64 a7) := HC 7 (by omega)
      have g8 : wr.cell? ⟨b, o + k * 10 + 8, none⟩ = some (.int .i64 a8) := HC 8 (by omega)
      have g9 : wr.cell? ⟨b, o + k * 10 + 9, none⟩ = some (.int .i64 a9) := HC 9 (by omega)
      have HLn := hide (fun (w' : World) (ht : Tab w') => show Calls Tryd.prog 17 #[.agg #[.int .i64 a0, .int .i64 a1, .int .i64 a2, .int .i64 a3, .int .i64 a4, .int .i64 a5, .int .i64 a6, .int .i64 a7, .int .i64 a8, .int .i64 a9]] w' (fun e w'' => e = .returned (.string (bs ln)) ∧ Below w'.heap.size w' w'') from HLn0.out w' ht)
      obtain ⟨tb, htb⟩ : ∃ tb, tb = tableT (L.take k) := ⟨_, rfl⟩
      rw [← htb] at HS htl hbu
      clear htb HC hrr0 HLn0
      have j1 : (0 : Int) ≤ (k : Int) := by omega
      have j2 : (k : Int) < (N : Int) := by omega
      have j3 : decide ((k : Int) < (N : Int)) = true := by simp; exact hlt
      have hA1 := hide (hbu.out.call (below_alloc wr (.cells #[.int .i64 a0, .int .i64 a1, .int .i64 a2, .int .i64 a3, .int .i64 a4, .int .i64 a5, .int .i64 a6, .int .i64 a7, .int .i64 a8, .int .i64 a9] 23)))
      have hO1 := hide (hon.out.alloc (.cells #[.int .i64 a0, .int .i64 a1, .int .i64 a2, .int .i64 a3, .int .i64 a4, .int .i64 a5, .int .i64 a6, .int .i64 a7, .int .i64 a8, .int .i64 a9] 23))
      have hB1 := hide (hbel.out.alloc hbel.out.size (.cells #[.int .i64 a0, .int .i64 a1, .int .i64 a2, .int .i64 a3, .int .i64 a4, .int .i64 a5, .int .i64 a6, .int .i64 a7, .int .i64 a8, .int .i64 a9] 23))
      go_wp2_with fail
      refine (HLn.out _ (HT00.out.below hB1.out)).mono ?_
      rintro e w2 ⟨rfl, hb2⟩
      have hA2 := hide (hA1.out.call hb2)
      have hO2 := hide (hO1.out.trans (Only.of_below hb2 _))
      have hB2 := hide (hB1.out.trans (hb2.mono hB1.out.size))
      clear hb2 g0 g1 g2 g3 g4 g5 g6 g7 g8 g9
      go_wp2_with fail
      refine (WStr_c w1.heap.size w.heap.size (Lib.byteCells tb) (bs ln) w2 hA2.out (by rw [cells_len, bs_size]; omega) hO2.out.size hlt1).mono ?_
      rintro e w3 ⟨rfl, ha3, ho3, hb3⟩
      have hO3 := hide (hO2.out.trans ho3)
      have hB3 := hide (hB2.out.trans hb3)
      rw [cells_add] at ha3
      have hA3 := hide ha3
      clear ha3 ho3 hb3
      go_wp2_with fail
      refine (WByte_c w1.heap.size w.heap.size (Lib.byteCells (tb ++ ln)) 10 w3 hA3.out (by rw [cells_len, List.length_append]; omega) hO3.out.size hlt1).mono ?_
      rintro e w4 ⟨rfl, ha4, ho4, hb4⟩
      have hO4 := hide (hO3.out.trans ho4)
      have hB4 := hide (hB3.out.trans hb4)
      rw [cells_one] at ha4
      have hA4 := hide ha4
      clear ha4 ho4 hb4
      go_wp2_with fail
      go_roundw
      case rel => exact ⟨k + 1, by omega, by go_num, hide (by rw [HS.out]; exact hA4.out), hO4, hB4⟩
      case measure => simp [intOf]; omega
    · have hke : k = N := by omega
      subst hke
      have hd : decide ((k : Int) < (k : Int)) = false := by simp
      have hd2 : decide (k < k) = false := by simp
      have htk : L.take k = L := List.take_of_length_le (by rw [← HN.out]; omega)
      have hbu1 := hbu.out
      rw [htk] at hbu1
      have HSt := hide (Str_c w1.heap.size w.heap.size (tableT L) wr hbu1 (by have := hbel.out.size; omega) (by omega))
      clear htk hbu1
      go_wp2_with fail
      refine HSt.out.mono ?_
      rintro e w5 ⟨rfl, hb5⟩
      have HB5 := hide (hbel.out.trans hb5)
      clear hb5
      go_wp2_with fail
      go_ret
      exact ⟨rfl, HB5.out⟩
end Go.Proofs.YthnjebpbokmemaaDoor
