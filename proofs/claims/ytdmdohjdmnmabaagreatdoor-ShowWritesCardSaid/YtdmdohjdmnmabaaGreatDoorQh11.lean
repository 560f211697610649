/- A text in quotes, by the program. Conditions: those of each theorem. -/
import Derived.Test.YtdmdohjdmnmabaaGreatDoorQh07
namespace Go.Proofs.YtdmdohjdmnmabaaGreatDoor
open Go.RowKit
set_option linter.unusedVariables false
set_option linter.unusedSimpArgs false

theorem hex_at (d : Nat) (h : d < 16) : (⟨#[48, 49, 50, 51, 52, 53, 54, 55, 56, 57, 97, 98, 99, 100, 101, 102]⟩ : ByteArray).data[d]? = some (hexD d) := by
 have : ∀ d : Fin 16, (⟨#[48, 49, 50, 51, 52, 53, 54, 55, 56, 57, 97, 98, 99, 100, 101, 102]⟩ : ByteArray).data[d.val]? = some (hexD d.val) := by decide
 exact this ⟨d, h⟩
theorem hex_nat (d : Nat) (hd : d < (⟨#[48, 49, 50, 51, 52, 53, 54, 55, 56, 57, 97, 98, 99, 100, 101, 102]⟩ : ByteArray).size) : ((((⟨#[48, 49, 50, 51, 52, 53, 54, 55, 56, 57, 97, 98, 99, 100, 101, 102]⟩ : ByteArray)[d]'hd).toNat : Nat) : Int) = ((hexD d).toNat : Nat) := by
 have h := hex_at d hd
 have h2 : (⟨#[48, 49, 50, 51, 52, 53, 54, 55, 56, 57, 97, 98, 99, 100, 101, 102]⟩ : ByteArray).data[d]? = some ((⟨#[48, 49, 50, 51, 52, 53, 54, 55, 56, 57, 97, 98, 99, 100, 101, 102]⟩ : ByteArray)[d]'hd) := Array.getElem?_eq_getElem hd
 rw [h] at h2
 injection h2 with h2
 rw [h2]
set_option maxRecDepth 100000 in
set_option maxHeartbeats 6400000 in
theorem sign_c' (B b : Nat) (l : List UInt8) (c : UInt8) (w : World) (h : BlAt B b l w) (hlen : l.length + 4 ≤ 140737488355328) :
 Calls Tryz.prog 91 #[.pointer (some ⟨b, 0, none⟩), .int .u8 c.toNat] w fun e w' => e = .returned (.tuple #[]) ∧ Bo B b (l ++ signT c) w w' := by
 have HWB := hide (fun (l : List UInt8) (c : UInt8) (n : Int) (w : World) (h : BlAt B b l w) (hn : n = c.toNat) (hlen : l.length + 1 ≤ 140737488355328) => WB_c B b l c n w h hn hlen)
 have HWS := hide (fun (l t : List UInt8) (s : ByteArray) (w : World) (h : BlAt B b l w) (hs : s = ⟨t.toArray⟩) (hlen : l.length + t.length ≤ 140737488355328) => WS_c B b l t s w h hs hlen)
 have HB := hide h
 have hc := c.toNat_lt
 obtain ⟨n, hn⟩ : ∃ n, n = c.toNat := ⟨_, rfl⟩
 have e34 : c = 34 ↔ n = 34 := by rw [hn, ← UInt8.toNat_inj]; rfl
 have e92 : c = 92 ↔ n = 92 := by rw [hn, ← UInt8.toNat_inj]; rfl
 have e10 : c = 10 ↔ n = 10 := by rw [hn, ← UInt8.toNat_inj]; rfl
 have e13 : c = 13 ↔ n = 13 := by rw [hn, ← UInt8.toNat_inj]; rfl
 have e9 : c = 9 ↔ n = 9 := by rw [hn, ← UInt8.toNat_inj]; rfl
 have eL : c < 32 ↔ n < 32 := by rw [hn, UInt8.lt_iff_toNat_lt]; rfl
 have eG : 126 < c ↔ 126 < n := by rw [hn, UInt8.lt_iff_toNat_lt]; rfl
 have HT := hide (show signT c = if n = 34 ∨ n = 92 then [92, c] else if n = 10 then [92, 110] else if n = 13 then [92, 114] else if n = 9 then [92, 116] else if n < 32 ∨ 126 < n then [92, 120, hexD (n / 16), hexD (n % 16)] else [c] by unfold signT; simp only [e34, e92, e10, e13, e9, eL, eG, ← hn])
 have HN := hide hn
 rw [← hn] at hc ⊢
 clear h hn e34 e92 e10 e13 e9 eL eG
 go_enter Tryz.func91, Tryz.ntmps91
 have hway : n = 34 ∨ n = 92 ∨ n = 10 ∨ n = 13 ∨ n = 9 ∨ (n < 32 ∧ n ≠ 10 ∧ n ≠ 13 ∧ n ≠ 9) ∨ 126 < n ∨ (32 ≤ n ∧ n ≤ 126 ∧ n ≠ 34 ∧ n ≠ 92) := by omega
 rcases hway with h1 | h1 | h1 | h1 | h1 | h1 | h1 | h1
 ·have q34 : ((n : Int) == 34) = true := beq_iff_eq.2 (by omega)
  have HT2 := hide (show signT c = [92, c] by rw [HT.out]; first | (simp [h1]; done) | (simp [h1, g1, g2, g3, g4, g5]; done))
  clear HT
  go_wp2_with fail
  refine (HWB.out l 92 _ _ HB.out rfl (by (try simp only [ List.length_append, List.length_cons, List.length_nil]); omega)).mono ?_
  rintro e w1 ⟨rfl, hq1⟩
  have HB1 := hide hq1.1
  have HO1 := hide hq1
  clear hq1
  obtain ⟨l1, hl1⟩ : ∃ l1, l1 = l ++ [92] := ⟨_, rfl⟩
  rw [← hl1] at HB1 HO1
  have HL1 := hide hl1
  clear hl1
  go_wp2_with fail
  refine (HWB.out l1 c _ _ HB1.out (by have := HN.out; omega) (by (try simp only [HL1.out,  List.length_append, List.length_cons, List.length_nil]); omega)).mono ?_
  rintro e w2 ⟨rfl, hq2⟩
  have HB2 := hide hq2.1
  have HO2 := hide (HO1.out.trans hq2)
  clear hq2
  obtain ⟨l2, hl2⟩ : ∃ l2, l2 = l1 ++ [c] := ⟨_, rfl⟩
  rw [← hl2] at HB2 HO2
  have HL2 := hide hl2
  clear hl2
  go_wp2_with fail
  go_end0
  refine ⟨rfl, ?_⟩
  rw [HT2.out]
  have e : l ++ [92, c] = l2 := by rw [HL2.out, HL1.out]; try simp
  rw [e]
  exact HO2.out
 ·have q34 : ((n : Int) == 34) = false := beq_eq_false_iff_ne.2 (by omega)
  have q92 : ((n : Int) == 92) = true := beq_iff_eq.2 (by omega)
  have HT2 := hide (show signT c = [92, c] by rw [HT.out]; first | (simp [h1]; done) | (simp [h1, g1, g2, g3, g4, g5]; done))
  clear HT
  go_wp2_with fail
  refine (HWB.out l 92 _ _ HB.out rfl (by (try simp only [ List.length_append, List.length_cons, List.length_nil]); omega)).mono ?_
  rintro e w1 ⟨rfl, hq1⟩
  have HB1 := hide hq1.1
  have HO1 := hide hq1
  clear hq1
  obtain ⟨l1, hl1⟩ : ∃ l1, l1 = l ++ [92] := ⟨_, rfl⟩
  rw [← hl1] at HB1 HO1
  have HL1 := hide hl1
  clear hl1
  go_wp2_with fail
  refine (HWB.out l1 c _ _ HB1.out (by have := HN.out; omega) (by (try simp only [HL1.out,  List.length_append, List.length_cons, List.length_nil]); omega)).mono ?_
  rintro e w2 ⟨rfl, hq2⟩
  have HB2 := hide hq2.1
  have HO2 := hide (HO1.out.trans hq2)
  clear hq2
  obtain ⟨l2, hl2⟩ : ∃ l2, l2 = l1 ++ [c] := ⟨_, rfl⟩
  rw [← hl2] at HB2 HO2
  have HL2 := hide hl2
  clear hl2
  go_wp2_with fail
  go_end0
  refine ⟨rfl, ?_⟩
  rw [HT2.out]
  have e : l ++ [92, c] = l2 := by rw [HL2.out, HL1.out]; try simp
  rw [e]
  exact HO2.out
 ·have q34 : ((n : Int) == 34) = false := beq_eq_false_iff_ne.2 (by omega)
  have q92 : ((n : Int) == 92) = false := beq_eq_false_iff_ne.2 (by omega)
  have q10 : ((n : Int) == 10) = true := beq_iff_eq.2 (by omega)
  have HT2 := hide (show signT c = [92, 110] by rw [HT.out]; first | (simp [h1]; done) | (simp [h1, g1, g2, g3, g4, g5]; done))
  clear HT
  go_wp2_with fail
  refine (HWS.out l [92, 110] _ _ HB.out rfl (by (try simp only [ List.length_append, List.length_cons, List.length_nil]); omega)).mono ?_
  rintro e w1 ⟨rfl, hq1⟩
  have HB1 := hide hq1.1
  have HO1 := hide hq1
  clear hq1
  obtain ⟨l1, hl1⟩ : ∃ l1, l1 = l ++ [92, 110] := ⟨_, rfl⟩
  rw [← hl1] at HB1 HO1
  have HL1 := hide hl1
  clear hl1
  go_wp2_with fail
  go_end0
  refine ⟨rfl, ?_⟩
  rw [HT2.out]
  have e : l ++ [92, 110] = l1 := by rw [HL1.out]; try simp
  rw [e]
  exact HO1.out
 ·have q34 : ((n : Int) == 34) = false := beq_eq_false_iff_ne.2 (by omega)
  have q92 : ((n : Int) == 92) = false := beq_eq_false_iff_ne.2 (by omega)
  have q10 : ((n : Int) == 10) = false := beq_eq_false_iff_ne.2 (by omega)
  have q13 : ((n : Int) == 13) = true := beq_iff_eq.2 (by omega)
  have HT2 := hide (show signT c = [92, 114] by rw [HT.out]; first | (simp [h1]; done) | (simp [h1, g1, g2, g3, g4, g5]; done))
  clear HT
  go_wp2_with fail
  refine (HWS.out l [92, 114] _ _ HB.out rfl (by (try simp only [ List.length_append, List.length_cons, List.length_nil]); omega)).mono ?_
  rintro e w1 ⟨rfl, hq1⟩
  have HB1 := hide hq1.1
  have HO1 := hide hq1
  clear hq1
  obtain ⟨l1, hl1⟩ : ∃ l1, l1 = l ++ [92, 114] := ⟨_, rfl⟩
  rw [← hl1] at HB1 HO1
  have HL1 := hide hl1
  clear hl1
  go_wp2_with fail
  go_end0
  refine ⟨rfl, ?_⟩
  rw [HT2.out]
  have e : l ++ [92, 114] = l1 := by rw [HL1.out]; try simp
  rw [e]
  exact HO1.out
 ·have q34 : ((n : Int) == 34) = false := beq_eq_false_iff_ne.2 (by omega)
  have q92 : ((n : Int) == 92) = false := beq_eq_false_iff_ne.2 (by omega)
  have q10 : ((n : Int) == 10) = false := beq_eq_false_iff_ne.2 (by omega)
  have q13 : ((n : Int) == 13) = false := beq_eq_false_iff_ne.2 (by omega)
  have q9 : ((n : Int) == 9) = true := beq_iff_eq.2 (by omega)
  have HT2 := hide (show signT c = [92, 116] by rw [HT.out]; first | (simp [h1]; done) | (simp [h1, g1, g2, g3, g4, g5]; done))
  clear HT
  go_wp2_with fail
  refine (HWS.out l [92, 116] _ _ HB.out rfl (by (try simp only [ List.length_append, List.length_cons, List.length_nil]); omega)).mono ?_
  rintro e w1 ⟨rfl, hq1⟩
  have HB1 := hide hq1.1
  have HO1 := hide hq1
  clear hq1
  obtain ⟨l1, hl1⟩ : ∃ l1, l1 = l ++ [92, 116] := ⟨_, rfl⟩
  rw [← hl1] at HB1 HO1
  have HL1 := hide hl1
  clear hl1
  go_wp2_with fail
  go_end0
  refine ⟨rfl, ?_⟩
  rw [HT2.out]
  have e : l ++ [92, 116] = l1 := by rw [HL1.out]; try simp
  rw [e]
  exact HO1.out
 ·have g1 : ¬ n = 10 := by omega
  have g2 : ¬ n = 13 := by omega
  have g3 : ¬ n = 9 := by omega
  have g6 : ¬ (n = 34 ∨ n = 92) := by omega
  have g7 : n < 32 ∨ 126 < n := by omega
  have q34 : ((n : Int) == 34) = false := beq_eq_false_iff_ne.2 (by omega)
  have q92 : ((n : Int) == 92) = false := beq_eq_false_iff_ne.2 (by omega)
  have q10 : ((n : Int) == 10) = false := beq_eq_false_iff_ne.2 (by omega)
  have q13 : ((n : Int) == 13) = false := beq_eq_false_iff_ne.2 (by omega)
  have q9 : ((n : Int) == 9) = false := beq_eq_false_iff_ne.2 (by omega)
  have q1 : decide ((n : Int) < 32) = true := by simp; omega
  have HT2 := hide (show signT c = [92, 120, hexD (n / 16), hexD (n % 16)] by rw [HT.out]; simp [h1, g1, g2, g3, g6, g7])
  clear HT
  go_wp2_with fail
  refine (HWS.out l [92, 120] _ _ HB.out rfl (by (try simp only [ List.length_append, List.length_cons, List.length_nil]); omega)).mono ?_
  rintro e w1 ⟨rfl, hq1⟩
  have HB1 := hide hq1.1
  have HO1 := hide hq1
  clear hq1
  obtain ⟨l1, hl1⟩ : ∃ l1, l1 = l ++ [92, 120] := ⟨_, rfl⟩
  rw [← hl1] at HB1 HO1
  have HL1 := hide hl1
  clear hl1
  go_wp2_with fail
  refine (HWB.out l1 (hexD (n / 16)) _ _ HB1.out (hex_nat _ _) (by (try simp only [HL1.out,  List.length_append, List.length_cons, List.length_nil]); omega)).mono ?_
  rintro e w2 ⟨rfl, hq2⟩
  have HB2 := hide hq2.1
  have HO2 := hide (HO1.out.trans hq2)
  clear hq2
  obtain ⟨l2, hl2⟩ : ∃ l2, l2 = l1 ++ [(hexD (n / 16))] := ⟨_, rfl⟩
  rw [← hl2] at HB2 HO2
  have HL2 := hide hl2
  clear hl2
  go_wp2_with fail
  refine (HWB.out l2 (hexD (n % 16)) _ _ HB2.out (hex_nat _ _) (by (try simp only [HL2.out, HL1.out,  List.length_append, List.length_cons, List.length_nil]); omega)).mono ?_
  rintro e w3 ⟨rfl, hq3⟩
  have HB3 := hide hq3.1
  have HO3 := hide (HO2.out.trans hq3)
  clear hq3
  obtain ⟨l3, hl3⟩ : ∃ l3, l3 = l2 ++ [(hexD (n % 16))] := ⟨_, rfl⟩
  rw [← hl3] at HB3 HO3
  have HL3 := hide hl3
  clear hl3
  go_wp2_with fail
  go_end0
  refine ⟨rfl, ?_⟩
  rw [HT2.out]
  have e : l ++ [92, 120, hexD (n / 16), hexD (n % 16)] = l3 := by rw [HL3.out, HL2.out, HL1.out]; try simp
  rw [e]
  exact HO3.out
 ·have g1 : ¬ n = 10 := by omega
  have g2 : ¬ n = 13 := by omega
  have g3 : ¬ n = 9 := by omega
  have g6 : ¬ (n = 34 ∨ n = 92) := by omega
  have g7 : n < 32 ∨ 126 < n := by omega
  have q34 : ((n : Int) == 34) = false := beq_eq_false_iff_ne.2 (by omega)
  have q92 : ((n : Int) == 92) = false := beq_eq_false_iff_ne.2 (by omega)
  have q10 : ((n : Int) == 10) = false := beq_eq_false_iff_ne.2 (by omega)
  have q13 : ((n : Int) == 13) = false := beq_eq_false_iff_ne.2 (by omega)
  have q9 : ((n : Int) == 9) = false := beq_eq_false_iff_ne.2 (by omega)
  have q1 : decide ((n : Int) < 32) = false := by simp; omega
  have q2 : decide ((126 : Int) < (n : Int)) = true := by simp; omega
  have HT2 := hide (show signT c = [92, 120, hexD (n / 16), hexD (n % 16)] by rw [HT.out]; simp [h1, g1, g2, g3, g6, g7])
  clear HT
  go_wp2_with fail
  refine (HWS.out l [92, 120] _ _ HB.out rfl (by (try simp only [ List.length_append, List.length_cons, List.length_nil]); omega)).mono ?_
  rintro e w1 ⟨rfl, hq1⟩
  have HB1 := hide hq1.1
  have HO1 := hide hq1
  clear hq1
  obtain ⟨l1, hl1⟩ : ∃ l1, l1 = l ++ [92, 120] := ⟨_, rfl⟩
  rw [← hl1] at HB1 HO1
  have HL1 := hide hl1
  clear hl1
  go_wp2_with fail
  refine (HWB.out l1 (hexD (n / 16)) _ _ HB1.out (hex_nat _ _) (by (try simp only [HL1.out,  List.length_append, List.length_cons, List.length_nil]); omega)).mono ?_
  rintro e w2 ⟨rfl, hq2⟩
  have HB2 := hide hq2.1
  have HO2 := hide (HO1.out.trans hq2)
  clear hq2
  obtain ⟨l2, hl2⟩ : ∃ l2, l2 = l1 ++ [(hexD (n / 16))] := ⟨_, rfl⟩
  rw [← hl2] at HB2 HO2
  have HL2 := hide hl2
  clear hl2
  go_wp2_with fail
  refine (HWB.out l2 (hexD (n % 16)) _ _ HB2.out (hex_nat _ _) (by (try simp only [HL2.out, HL1.out,  List.length_append, List.length_cons, List.length_nil]); omega)).mono ?_
  rintro e w3 ⟨rfl, hq3⟩
  have HB3 := hide hq3.1
  have HO3 := hide (HO2.out.trans hq3)
  clear hq3
  obtain ⟨l3, hl3⟩ : ∃ l3, l3 = l2 ++ [(hexD (n % 16))] := ⟨_, rfl⟩
  rw [← hl3] at HB3 HO3
  have HL3 := hide hl3
  clear hl3
  go_wp2_with fail
  go_end0
  refine ⟨rfl, ?_⟩
  rw [HT2.out]
  have e : l ++ [92, 120, hexD (n / 16), hexD (n % 16)] = l3 := by rw [HL3.out, HL2.out, HL1.out]; try simp
  rw [e]
  exact HO3.out
 ·have q34 : ((n : Int) == 34) = false := beq_eq_false_iff_ne.2 (by omega)
  have q92 : ((n : Int) == 92) = false := beq_eq_false_iff_ne.2 (by omega)
  have g1 : ¬ n = 10 := by omega
  have g2 : ¬ n = 13 := by omega
  have g3 : ¬ n = 9 := by omega
  have q10 : ((n : Int) == 10) = false := beq_eq_false_iff_ne.2 (by omega)
  have q13 : ((n : Int) == 13) = false := beq_eq_false_iff_ne.2 (by omega)
  have q9 : ((n : Int) == 9) = false := beq_eq_false_iff_ne.2 (by omega)
  have q1 : decide ((n : Int) < 32) = false := by simp; omega
  have q2 : decide ((126 : Int) < (n : Int)) = false := by simp; omega
  have g4 : ¬ n < 32 := by omega
  have g5 : ¬ 126 < n := by omega
  have HT2 := hide (show signT c = [c] by rw [HT.out]; first | (simp [h1]; done) | (simp [h1, g1, g2, g3, g4, g5]; done))
  clear HT
  go_wp2_with fail
  refine (HWB.out l c _ _ HB.out (by have := HN.out; omega) (by (try simp only [ List.length_append, List.length_cons, List.length_nil]); omega)).mono ?_
  rintro e w1 ⟨rfl, hq1⟩
  have HB1 := hide hq1.1
  have HO1 := hide hq1
  clear hq1
  obtain ⟨l1, hl1⟩ : ∃ l1, l1 = l ++ [c] := ⟨_, rfl⟩
  rw [← hl1] at HB1 HO1
  have HL1 := hide hl1
  clear hl1
  go_wp2_with fail
  go_end0
  refine ⟨rfl, ?_⟩
  rw [HT2.out]
  have e : l ++ [c] = l1 := by rw [HL1.out]; try simp
  rw [e]
  exact HO1.out
end Go.Proofs.YtdmdohjdmnmabaaGreatDoor
