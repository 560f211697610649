/- A text in quotes, by the document. Conditions: those of each theorem. -/
import Derived.Test.YtdmdohjdmnmabaaGreatDoorQh11
import Derived.Test.YtdmdohjdmnmabaaGreatDoorQh09
import Derived.Test.YtdmdohjdmnmabaaGreatDoorQh05
import Derived.Deep.QuietTactic
namespace Go.Proofs.YtdmdohjdmnmabaaGreatDoor
open Go.RowKit
set_option linter.unusedVariables false
set_option linter.unusedSimpArgs false

theorem hex_fin : ∀ d : Fin 16, ((⟨#[48, 49, 50, 51, 52, 53, 54, 55, 56, 57, 97, 98, 99, 100, 101, 102]⟩ : ByteArray).extract d.val (d.val + 1)) = bs [hexD d.val] := by decide
theorem hex_sub {d : Nat} (h : d < 16) : ((⟨#[48, 49, 50, 51, 52, 53, 54, 55, 56, 57, 97, 98, 99, 100, 101, 102]⟩ : ByteArray).extract d (d + 1)) = bs [hexD d] := hex_fin ⟨d, h⟩
set_option maxRecDepth 100000 in
set_option maxHeartbeats 6400000 in
theorem refSign_c (c : UInt8) (m : Int) (hm : m = c.toNat) (w : World) : Calls Tryz.prog 69 #[.int .u8 m] w fun e w' => e = .returned (.string (bs (signT c))) ∧ Below w.heap.size w w' := by
 subst hm
 have hc := c.toNat_lt
 obtain ⟨n, hn⟩ : ∃ n, n = c.toNat := ⟨_, rfl⟩
 have e34 : c = 34 ↔ n = 34 := by rw [hn, ← UInt8.toNat_inj]; rfl
 have e92 : c = 92 ↔ n = 92 := by rw [hn, ← UInt8.toNat_inj]; rfl
 have e10 : c = 10 ↔ n = 10 := by rw [hn, ← UInt8.toNat_inj]; rfl
 have e13 : c = 13 ↔ n = 13 := by rw [hn, ← UInt8.toNat_inj]; rfl
 have e9 : c = 9 ↔ n = 9 := by rw [hn, ← UInt8.toNat_inj]; rfl
 have eL : c < 32 ↔ n < 32 := by rw [hn, UInt8.lt_iff_toNat_lt]; rfl
 have eG : 126 < c ↔ 126 < n := by rw [hn, UInt8.lt_iff_toNat_lt]; rfl
 have HT := hide (show signT c = if n = 34 ∨ n = 92 then [92, c] else if n = 10 then [92, 110] else if n = 13 then [92, 114] else if n = 9 then [92, 116] else if n < 32 ∨ 126 < n then [92, 120, hexD (n / 16), hexD (n % 16)] else [c] by unfold signT; simp only [e34, e92, e10, e13, e9, eL, eG, ← hn])
 have HN := hide hn
 have HCv := hide (show c = UInt8.ofNat n by rw [hn]; simp)
 rw [← hn] at hc ⊢
 clear hn e34 e92 e10 e13 e9 eL eG
 have hway : n = 34 ∨ n = 92 ∨ n = 10 ∨ n = 13 ∨ n = 9 ∨ ((n < 32 ∨ 126 < n) ∧ n ≠ 34 ∧ n ≠ 92 ∧ n ≠ 10 ∧ n ≠ 13 ∧ n ≠ 9) ∨ (32 ≤ n ∧ n ≤ 126 ∧ n ≠ 34 ∧ n ≠ 92) := by omega
 rcases hway with rfl | rfl | rfl | rfl | rfl | ⟨h1, n1, n2, n3, n4, n5⟩ | ⟨h1, h2, n1, n2⟩
 ·have HV := hide (show signT c = [92, 34] by rw [HT.out, HCv.out]; rfl)
  go_enter Tryz.func69, Tryz.ntmps69
  go_wp2_with fail
  go_ret
  exact ⟨by rw [HV.out]; rfl, Below.refl _ _⟩
 ·have HV := hide (show signT c = [92, 92] by rw [HT.out, HCv.out]; rfl)
  go_enter Tryz.func69, Tryz.ntmps69
  go_wp2_with fail
  go_ret
  exact ⟨by rw [HV.out]; rfl, Below.refl _ _⟩
 ·have HV := hide (show signT c = [92, 110] by rw [HT.out]; rfl)
  go_enter Tryz.func69, Tryz.ntmps69
  go_wp2_with fail
  go_ret
  exact ⟨by rw [HV.out]; rfl, Below.refl _ _⟩
 ·have HV := hide (show signT c = [92, 114] by rw [HT.out]; rfl)
  go_enter Tryz.func69, Tryz.ntmps69
  go_wp2_with fail
  go_ret
  exact ⟨by rw [HV.out]; rfl, Below.refl _ _⟩
 ·have HV := hide (show signT c = [92, 116] by rw [HT.out]; rfl)
  go_enter Tryz.func69, Tryz.ntmps69
  go_wp2_with fail
  go_ret
  exact ⟨by rw [HV.out]; rfl, Below.refl _ _⟩
 ·have HV := hide (show signT c = [92, 120, hexD (n / 16), hexD (n % 16)] by rw [HT.out, if_neg (by omega), if_neg n3, if_neg n4, if_neg n5, if_pos h1])
  have q1 : ((n : Int) == 34) = false := beq_eq_false_iff_ne.2 (by omega)
  have q2 : ((n : Int) == 92) = false := beq_eq_false_iff_ne.2 (by omega)
  have q3 : ((n : Int) == 10) = false := beq_eq_false_iff_ne.2 (by omega)
  have q4 : ((n : Int) == 13) = false := beq_eq_false_iff_ne.2 (by omega)
  have q5 : ((n : Int) == 9) = false := beq_eq_false_iff_ne.2 (by omega)
  have hx := hex_sub (d := n / 16) (by omega)
  have hy := hex_sub (d := n % 16) (by omega)
  by_cases h3 : n < 32
  case pos =>
   have q6 : decide ((32 : Int) ≤ (n : Int)) = false := by simp; omega
   go_enter Tryz.func69, Tryz.ntmps69
   go_upto_region 14 with fail
   go_quiet (fail)
   go_wp2_with fail
   go_ret
   exact ⟨by rw [HV.out]; rfl, below_drewN _ _⟩
  case neg =>
   have q6 : decide ((32 : Int) ≤ (n : Int)) = true := by simp; omega
   have q7 : decide ((n : Int) < 127) = false := by simp; omega
   go_enter Tryz.func69, Tryz.ntmps69
   go_upto_region 14 with fail
   go_quiet (fail)
   go_wp2_with fail
   go_ret
   exact ⟨by rw [HV.out]; rfl, below_drewN _ _⟩
 ·have HV := hide (show signT c = [c] by rw [HT.out, if_neg (by omega), if_neg (by omega), if_neg (by omega), if_neg (by omega), if_neg (by omega)])
  have q1 : ((n : Int) == 34) = false := beq_eq_false_iff_ne.2 (by omega)
  have q2 : ((n : Int) == 92) = false := beq_eq_false_iff_ne.2 (by omega)
  have q3 : ((n : Int) == 10) = false := beq_eq_false_iff_ne.2 (by omega)
  have q4 : ((n : Int) == 13) = false := beq_eq_false_iff_ne.2 (by omega)
  have q5 : ((n : Int) == 9) = false := beq_eq_false_iff_ne.2 (by omega)
  have q6 : decide ((32 : Int) ≤ (n : Int)) = true := by simp; omega
  have q7 : decide ((n : Int) < 127) = true := by simp; omega
  have hconv : (convert 53 9 (.slice (some ⟨w.heap.size, 0, none⟩) 1 1)).run Tryz.prog (w.alloc (.cells #[.int .u8 n] 5)) = .ok (.string (bs [c])) (w.alloc (.cells #[.int .u8 n] 5)) := by
   refine run_convert_bytes_back (P := Tryz.prog) (w.alloc (.cells #[.int .u8 n] 5)) 53 9 5 ⟨w.heap.size, 0, none⟩ 1 [c] Tryz.underlying53 Tryz.underlying5 Tryz.underlying9 (fun j hj => ?_)
   obtain rfl : j = 0 := by simp at hj; omega
   rw [Addr.add_lit, (Blk.new w 5 #[.int .u8 n]).cell, HN.out]
   rfl
  go_enter Tryz.func69, Tryz.ntmps69
  go_wp2_with fail
  go_ret
  exact ⟨by rw [HV.out]; rfl, below_alloc _ _⟩
/-- the document's text in quotes -/
theorem quote_succ (l : List UInt8) (k : Nat) (h : k < l.length) : (34 :: signsT (l.take (k + 1))) = (34 :: signsT (l.take k)) ++ signT l[k] := by
 rw [signs_succ l k h]; rfl
set_option maxRecDepth 100000 in
set_option maxHeartbeats 6400000 in
theorem refQuote_c (s : ByteArray) (w : World) (hlen : 4 * s.size + 8 ≤ 140737488355328) :
 Calls Tryz.prog 39 #[.string s] w fun e w' => e = .returned (.string (bs (quoteT s.data.toList))) ∧ Below w.heap.size w w' := by
 obtain ⟨L, hL⟩ : ∃ L, L = s.data.toList := ⟨_, rfl⟩
 have hLn : L.length = s.size := by rw [hL]; simp
 have HSc := hide (quote_succ L)
 have HSl := hide (show ∀ k, k ≤ s.size → (34 :: signsT (L.take k)).length ≤ 4 * s.size + 1 from fun k hk => by have := signs_len (L.take k); rw [List.length_take] at this; rw [List.length_cons]; omega)
 have HAt := hide (show ∀ k (h : k < s.size) (h2 : k < L.length), s[k]'h = L[k]'h2 from fun k h h2 => by subst hL; rfl)
 have HSg := hide (fun (c : UInt8) (m : Int) (hm : m = c.toNat) (w' : World) => refSign_c c m hm w')
 have HSgL := hide (fun (c : UInt8) => (sign_len c).2)
 have HE := hide (show quoteT s.data.toList = (34 :: signsT (L.take s.size)) ++ [34] by rw [← hLn, List.take_length, hL]; rfl)
 have HLn := hide hLn
 clear hL hLn
 go_enter Tryz.func39, Tryz.ntmps39
 go_wp2_with fail
 go_loopw [3, 4] (fun v i wr => ∃ k : Nat, k ≤ s.size ∧ v = .string (bs (34 :: signsT (L.take k))) ∧ i = .int .i64 k ∧ Hid (Below w.heap.size w wr)) (fun _ i _ => s.size - (intOf i).toNat)
 case atStart => exact ⟨0, Nat.zero_le _, rfl, rfl, hide (Below.refl _ _)⟩
 case round =>
  obtain ⟨k, hk, rfl, rfl, HB⟩ := hrel
  have hsl := HSl.out k hk
  have w0 : IntKind.i64.wrap ((k : Int) + 1) = (k : Int) + 1 := IntWalk.i64_in _ (by omega)
  obtain ⟨Q, hQ⟩ : ∃ Q, Q = 34 :: signsT (L.take k) := ⟨_, rfl⟩
  rw [← hQ] at hsl ⊢
  have HQ := hide hQ
  clear hQ
  by_cases hlt : k < s.size
  case neg =>
   obtain rfl : k = s.size := by omega
   have d1 : decide ((s.size : Int) < (s.size : Int)) = false := by simp
   have d2 : decide (s.size < s.size) = false := by simp
   have hz : (bs Q).size + (⟨#[34]⟩ : ByteArray).size ≤ 9223372036854775807 := by rw [bs_size]; show _ + 1 ≤ _; omega
   go_wp2_with fail
   go_ret
   refine ⟨?_, HB.out⟩
   rw [HE.out, ← HQ.out]
   show Ending.returned (.string (bs Q ++ bs [34])) = _
   rw [bs_append]
  case pos =>
   have d1 : decide ((k : Int) < (s.size : Int)) = true := by simp; exact hlt
   have d2 : decide (k < s.size) = true := by simp; exact hlt
   have j1 : (0 : Int) ≤ (k : Int) := by omega
   have j2 : (k : Int) < (s.size : Int) := by omega
   have hkl : k < L.length := by rw [HLn.out]; exact hlt
   have HC := hide (HSc.out k hkl)
   rw [← HQ.out] at HC
   have HA := hide (HAt.out k hlt hkl)
   obtain ⟨c, hc⟩ : ∃ c, c = L[k] := ⟨_, rfl⟩
   rw [← hc] at HC HA
   have hsg := HSgL.out c
   have hz : (bs Q).size + (bs (signT c)).size ≤ 9223372036854775807 := by rw [bs_size, bs_size]; omega
   clear hc
   go_wp2_with fail
   refine (HSg.out c _ (by rw [HA.out]) _).mono ?_
   rintro e w3 ⟨rfl, hb3⟩
   have HB3 := hide (HB.out.trans (hb3.mono HB.out.size))
   clear hb3
   go_wp2_with fail
   go_roundw
   case rel => exact ⟨k + 1, by omega, by rw [HC.out, ← bs_append], by go_num, HB3⟩
   case measure => simp [intOf]; omega
end Go.Proofs.YtdmdohjdmnmabaaGreatDoor
