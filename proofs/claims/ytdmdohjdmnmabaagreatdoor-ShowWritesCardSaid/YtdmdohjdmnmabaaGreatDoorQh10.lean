/- Parts of a chain of lemmas: Lin, Word. Conditions: those of each theorem. -/
import Derived.Test.YtdmdohjdmnmabaaGreatDoorQh07
import Derived.Test.YtdmdohjdmnmabaaGreatDoorQh09
import Derived.Test.YtdmdohjdmnmabaaGreatDoorQh04
import Derived.Test.YtdmdohjdmnmabaaGreatDoorQh05
namespace Go.Proofs.YtdmdohjdmnmabaaGreatDoor
open Go.RowKit
set_option linter.unusedVariables false
set_option linter.unusedSimpArgs false

theorem itoa_nnT {n : Int} (h : -9223372036854775808 ≤ n) (h2 : n ≤ 9223372036854775807) : (Lib.itoa (nnT n)).length ≤ 21 := itoa_len (by unfold nnT; split <;> omega) (by unfold nnT; split <;> omega)
set_option maxHeartbeats 1600000 in
theorem label_c (n : Int) (w : World) (h0 : -9223372036854775808 ≤ n) (h1 : n ≤ 9223372036854775807) (ht : Tab w) : Calls Tryz.prog 30 #[.int .i64 n] w fun e w' => e = .returned (.string ⟨(labelT n).toArray⟩) ∧ Below w.heap.size w w' := by
 have HI := hide (Itoa_c (nnT n) w (by unfold nnT; split <;> omega) (by unfold nnT; split <;> omega) ht)
 have hl := itoa_nnT h0 h1
 have hm : max n 0 = nnT n := by unfold nnT; split <;> omega
 have HT := hide (show labelT n = 108 :: Lib.itoa (nnT n) from rfl)
 obtain ⟨I, hI⟩ : ∃ I, I = Lib.itoa (nnT n) := ⟨_, rfl⟩
 rw [← hI] at HI hl HT
 have hz : (bs I).size = I.length := bs_size I
 have hc : (⟨#[108]⟩ : ByteArray).size + (bs I).size ≤ 9223372036854775807 := by rw [hz]; show 1 + _ ≤ _; omega
 clear hI ht
 go_enter Tryz.func30, Tryz.ntmps30
 go_wp2_with fail
 refine HI.out.mono ?_
 rintro e w2 ⟨rfl, hb2⟩
 have HB2 := hide hb2
 clear hb2
 go_wp2_with fail
 go_ret
 refine ⟨?_, HB2.out⟩
 rw [HT.out]
 show Ending.returned (.string (bs [108] ++ bs I)) = _
 rw [bs_append]
 rfl
def strV (t : List UInt8) : Value := .string ⟨t.toArray⟩
theorem words_add (ws : List (List UInt8)) (k : Nat) (h : k < ws.length) : wordsT (ws.take (k + 1)) = (wordsT (ws.take k) ++ (if k = 0 then [] else [32])) ++ ws[k] := by
 cases ws with
 | nil => simp at h
 | cons t r =>
  cases k with
  | zero => simp [wordsT]
  | succ k =>
   have hk : k < r.length := by simpa using h
   simp only [List.take_succ_cons, List.getElem_cons_succ]
   rw [words_succ t r k hk]
   simp
theorem words_le (ws : List (List UInt8)) : ∀ d k, k + d = ws.length → (wordsT (ws.take k)).length ≤ (wordsT ws).length
 | 0, k, h => by rw [List.take_of_length_le (by omega)]; exact Nat.le_refl _
 | d + 1, k, h => by
  have h1 := words_le ws d (k + 1) (by omega)
  rw [words_add ws k (by omega)] at h1
  simp only [List.length_append] at h1
  omega
set_option maxRecDepth 100000 in
set_option maxHeartbeats 6400000 in
theorem line_c (B b g : Nat) (l : List UInt8) (ws : List (List UInt8)) (w : World) (h : BlAt B b l w) (hg : Blk w g 9 (ws.map strV).toArray) (hn : ws.length ≤ 8) (hlen : l.length + (lineT ws).length ≤ 140737488355328) :
 Calls Tryz.prog 25 #[.pointer (some ⟨b, 0, none⟩), .slice (some ⟨g, 0, none⟩) ws.length ws.length] w fun e w' => e = .returned (.tuple #[]) ∧ Bo B b (l ++ lineT ws) w w' := by
 have HWB := hide (fun (l : List UInt8) (c : UInt8) (n : Int) (w : World) (h : BlAt B b l w) (hn : n = c.toNat) (hlen : l.length + 1 ≤ 140737488355328) => WB_c B b l c n w h hn hlen)
 have HWS := hide (fun (l t : List UInt8) (s : ByteArray) (w : World) (h : BlAt B b l w) (hs : s = ⟨t.toArray⟩) (hlen : l.length + t.length ≤ 140737488355328) => WS_c B b l t s w h hs hlen)
 have HD := hide (show Bo B b (l ++ wordsT (ws.take 0)) w w by rw [show l ++ wordsT (ws.take 0) = l by simp [wordsT]]; exact Bo.refl h)
 have HCl := hide (fun (l' : List UInt8) (w' : World) (h2 : Bo B b l' w w') (k : Nat) (hk : k < ws.length) => show w'.cell? ⟨g, k, none⟩ = some (strV ws[k]) by
  rw [(BldAt.side h hg h2.2.1 h2.2.2 (by decide) (by decide)).cell]
  simp [hk])
 have HSc := hide (words_add ws)
 have hle : ∀ k, k ≤ ws.length → (wordsT (ws.take k)).length + 1 ≤ (lineT ws).length := fun k hk => by
  have := words_le ws (ws.length - k) k (by omega)
  unfold lineT
  simp
  omega
 have HLe := hide hle
 have HLn := hide (show l ++ lineT ws = (l ++ wordsT (ws.take ws.length)) ++ [10] by unfold lineT; rw [List.take_length]; simp)
 obtain ⟨N, hN⟩ : ∃ N, N = (lineT ws).length := ⟨_, rfl⟩
 rw [← hN] at hlen HLe
 obtain ⟨m, hm⟩ : ∃ m, m = ws.length := ⟨_, rfl⟩
 have Hm := hide hm
 rw [← hm] at hn HLe HLn ⊢
 clear h hg hle hN hm
 go_enter Tryz.func25, Tryz.ntmps25
 go_wp2_with fail
 go_loopw [8] (fun i wr => ∃ k : Nat, k ≤ m ∧ i = .int .i64 k ∧ Hid (Bo B b (l ++ wordsT (ws.take k)) w wr)) (fun i _ => m - (intOf i).toNat)
 case atStart => exact ⟨0, Nat.zero_le _, rfl, HD⟩
 case round =>
  clear HD
  obtain ⟨k, hk, rfl, HQ⟩ := hrel
  have w0 : IntKind.i64.wrap ((k : Int) + 1) = (k : Int) + 1 := IntWalk.i64_in _ (by omega)
  by_cases hlt : k < m
  case neg =>
   obtain rfl : k = m := by omega
   have d1 : decide ((k : Int) < (k : Int)) = false := by simp
   have d2 : decide (k < k) = false := by simp
   have hl := HLe.out k (by omega)
   go_wp2_with fail
   refine (HWB.out _ 10 _ _ HQ.out.1 rfl (by simp; omega)).mono ?_
   rintro e w3 ⟨rfl, hq3⟩
   have HQ3 := hide (HQ.out.trans hq3)
   rw [← HLn.out] at HQ3
   clear hq3
   go_wp2_with fail
   go_end0
   exact ⟨rfl, HQ3.out⟩
  case pos =>
   have d1 : decide ((k : Int) < (m : Int)) = true := by simp; exact hlt
   have d2 : decide (k < m) = true := by simp; exact hlt
   have j1 : (0 : Int) ≤ (k : Int) := by omega
   have j2 : (k : Int) < (m : Int) := by omega
   have hkw : k < ws.length := by rw [← Hm.out]; exact hlt
   have HC := hide (HSc.out k hkw)
   have c0 := HCl.out _ _ HQ.out k hkw
   have hl := HLe.out (k + 1) (by omega)
   rw [HC.out] at hl
   simp only [List.length_append] at hl
   obtain ⟨u, hu⟩ : ∃ u, u = ws[k] := ⟨_, rfl⟩
   rw [← hu] at HC c0 hl
   unfold strV at c0
   clear hu
   by_cases hk0 : k = 0
   case pos =>
    have d3 : decide ((0 : Int) < (k : Int)) = false := by simp; omega
    have d4 : decide (0 < k) = false := by simp; omega
    rw [if_pos hk0] at HC hl
    clear hk0
    go_wp2_with fail
    refine (HWS.out _ u _ _ HQ.out.1 rfl (by simp at hl ⊢; omega)).mono ?_
    rintro e w3 ⟨rfl, hq3⟩
    have HQ3 := hide (HQ.out.trans hq3)
    clear hq3
    go_wp2_with fail
    go_roundw
    case rel => exact ⟨k + 1, by omega, by go_num, by rw [HC.out, List.append_nil, ← List.append_assoc]; exact HQ3⟩
    case measure => simp [intOf]; omega
   case neg =>
    have d3 : decide ((0 : Int) < (k : Int)) = true := by simp; omega
    have d4 : decide (0 < k) = true := by simp; omega
    rw [if_neg hk0] at HC hl
    clear hk0
    go_wp2_with fail
    refine (HWB.out _ 32 _ _ HQ.out.1 rfl (by simp at hl ⊢; omega)).mono ?_
    rintro e w3 ⟨rfl, hq3⟩
    have HQ3 := hide (HQ.out.trans hq3)
    clear hq3
    go_wp2_with fail
    refine (HWS.out _ u _ _ HQ3.out.1 rfl (by simp at hl ⊢; omega)).mono ?_
    rintro e w4 ⟨rfl, hq4⟩
    have HQ4 := hide (HQ3.out.trans hq4)
    clear hq4
    go_wp2_with fail
    go_roundw
    case rel => exact ⟨k + 1, by omega, by go_num, by rw [HC.out, ← List.append_assoc, ← List.append_assoc]; exact HQ4⟩
    case measure => simp [intOf]; omega
end Go.Proofs.YtdmdohjdmnmabaaGreatDoor
namespace Go.Proofs.YtdmdohjdmnmabaaGreatDoor
open Go.RowKit
set_option linter.unusedVariables false
set_option linter.unusedSimpArgs false

set_option maxHeartbeats 3200000 in
theorem Word_c (k : Int) (w : World) : Calls Tryz.prog 62 #[.int .i64 k] w fun e w' => e = .returned (.string ⟨(wordT k).toArray⟩) ∧ w' = w := by
 have HW := hide (show wordT k = if k = 1 then [115, 101, 110, 100] else if k = 2 then [101, 120, 112, 101, 99, 116] else if k = 3 then [103, 111, 116, 111] else if k = 4 then [112, 97, 117, 115, 101] else if k = 5 then [100, 111, 110, 101] else if k = 6 then [102, 97, 105, 108] else [] from rfl)
 obtain ⟨W, hW⟩ : ∃ W, W = wordT k := ⟨_, rfl⟩
 rw [← hW] at HW ⊢
 clear hW
 go_enter Tryz.func62, Tryz.ntmps62
 go_wp2_with fail
 all_goals (go_ret; refine ⟨?_, rfl⟩; rw [HW.out]; simp_all)
set_option maxHeartbeats 3200000 in
theorem refWord_c (k : Int) (w : World) : Calls Tryz.prog 38 #[.int .i64 k] w fun e w' => e = .returned (.string ⟨(wordT k).toArray⟩) ∧ Below w.heap.size w w' := by
 have HW := hide (show wordT k = if k = 1 then [115, 101, 110, 100] else if k = 2 then [101, 120, 112, 101, 99, 116] else if k = 3 then [103, 111, 116, 111] else if k = 4 then [112, 97, 117, 115, 101] else if k = 5 then [100, 111, 110, 101] else if k = 6 then [102, 97, 105, 108] else [] from rfl)
 obtain ⟨W, hW⟩ : ∃ W, W = wordT k := ⟨_, rfl⟩
 rw [← hW] at HW ⊢
 clear hW
 by_cases hr : 1 ≤ k ∧ k ≤ 6
 ·obtain rfl | rfl | rfl | rfl | rfl | rfl : k = 1 ∨ k = 2 ∨ k = 3 ∨ k = 4 ∨ k = 5 ∨ k = 6 := by omega
  all_goals
   go_enter Tryz.func38, Tryz.ntmps38
   go_wp2_with fail
   go_ret
   exact ⟨by rw [HW.out]; rfl, below_alloc ..⟩
 ·have hf : (decide (k < 1) || decide (6 < k)) = true := by simp; omega
  have h0 := hide (show W = [] by rw [HW.out]; rw [if_neg (by omega), if_neg (by omega), if_neg (by omega), if_neg (by omega), if_neg (by omega), if_neg (by omega)])
  go_enter Tryz.func38, Tryz.ntmps38
  go_wp2_with fail
  all_goals (go_ret; exact ⟨by rw [h0.out]; rfl, below_alloc ..⟩)
end Go.Proofs.YtdmdohjdmnmabaaGreatDoor
