/- An op's label, and its lines, by the document. Conditions: those of each theorem. -/
import Derived.Test.YtdmdohjdmnmabaaGreatDoorQh38
import Derived.Test.YtdmdohjdmnmabaaGreatDoorQh23
import Derived.Deep.RegionHeld3
namespace Go.Proofs.YtdmdohjdmnmabaaGreatDoor
open Go.RowKit
set_option linter.unusedVariables false
set_option linter.unusedSimpArgs false

set_option maxRecDepth 100000 in
set_option maxHeartbeats 1600000 in
theorem refLabel_c (n : Int) (w : World) (h : InI n) : Calls Tryz.prog 11 #[.int .i64 n] w fun e w' => e = .returned (.string (bs (labelT n))) ∧ w' = w := by
 by_cases h0 : n < 0
 ·have d1 : decide (n < 0) = true := by simp; exact h0
  have HE := hide (show labelT n = [108, 48] by unfold labelT nnT; rw [if_pos h0, itoa_nn (Int.le_refl 0)]; exact congrArg (List.cons 108) (dec_one (u := 0) (by omega)))
  clear h0 h
  go_enter Tryz.func11, Tryz.ntmps11
  go_wp2_with fail
  go_ret
  exact ⟨by rw [HE.out]; rfl, rfl⟩
 ·obtain ⟨N, rfl⟩ : ∃ N : Nat, n = N := ⟨n.toNat, by omega⟩
  have hN : N ≤ 9223372036854775807 := by have := h.2; omega
  have d1 : decide ((N : Int) < 0) = false := by simp
  have HD := hide (Digits_c N w hN)
  have hl := dec_len (u := N) (by omega)
  have HE := hide (show bs [108] ++ bs (Lib.decDigits N) = bs (labelT (N : Int)) by rw [bs_append]; unfold labelT nnT; rw [if_neg (by omega), itoa_nn (by omega), Int.toNat_natCast]; rfl)
  obtain ⟨D, hD⟩ : ∃ D, D = Lib.decDigits N := ⟨_, rfl⟩
  rw [← hD] at HD hl HE
  clear hD h h0
  have w1 : IntKind.i64.wrap (N : Int) = (N : Int) := IntWalk.i64_in _ (by omega)
  have hz : (⟨#[108]⟩ : ByteArray).size + (bs D).size ≤ 9223372036854775807 := by have := bs_size D; show 1 + (bs D).size ≤ _; omega
  go_enter Tryz.func11, Tryz.ntmps11
  go_wp2_with fail
  refine HD.out.mono ?_
  rintro e w2 ⟨rfl, rfl⟩
  go_wp2_with fail
  go_ret
  exact ⟨by rw [← HE.out]; rfl, rfl⟩
/-- the first line of an op, by the document -/
def opLine (k n gt : Int) (t : ByteArray) : List UInt8 := wordT k ++ (if k = 1 then 32 :: quoteT t.data.toList else []) ++ (if k = 2 ∨ k = 4 then 32 :: tkT n else []) ++ (if k = 3 then 32 :: labelT gt else [])
theorem opD_eq (k : Int) (t : ByteArray) (n gt : Int) (ar : List ArmM) (x y : Int) : opD ⟨k, t, n, gt, ar, x, y⟩ = (opLine k n gt t ++ [10]) ++ ar.flatMap armT ++
 (if k = 2 ∧ x ≠ -1 then lineT [[116, 105, 109, 101, 111, 117, 116], labelT x] else []) ++ (if k = 2 ∧ y ≠ -1 then lineT [[101, 111, 102], labelT y] else []) := rfl
theorem arm_bytes (a : ArmM) : armT a = [111, 110, 32] ++ quoteT a.pat.data.toList ++ [32] ++ labelT a.to ++ [10] := by unfold armT lineT wordsT; simp
theorem line2_bytes (a b : List UInt8) : lineT [a, b] = a ++ 32 :: (b ++ [10]) := by unfold lineT wordsT; simp
set_option maxRecDepth 100000 in
set_option maxHeartbeats 25600000 in
theorem refOpS_c (k : Int) (t : ByteArray) (n gt : Int) (A : Option Addr) (ar : List ArmM) (c : Nat) (x y : Int) (w : World) (hr : Rd w NoBlk A (flat encArm ar)) (hz : OpW ⟨k, t, n, gt, ar, x, y⟩) :
 Calls Tryz.prog 15 #[.agg #[.int .i64 k, .string t, .int .i64 n, .int .i64 gt, .slice A ar.length c, .int .i64 x, .int .i64 y]] w fun e w' => e = .returned (.string (bs (opD ⟨k, t, n, gt, ar, x, y⟩))) ∧ Below w.heap.size w w' := by
 obtain ⟨m, hm⟩ : ∃ m, m = ar.length := ⟨_, rfl⟩
 have hma : m ≤ 100 := by rw [hm]; exact hz.arms
 obtain ⟨W, hW⟩ : ∃ W, W = w.alloc (.cells #[.int .i64 k, .string t, .int .i64 n, .int .i64 gt, .slice A ar.length c, .int .i64 x, .int .i64 y] 37) := ⟨_, rfl⟩
 obtain ⟨g, hg⟩ : ∃ g, g = w.heap.size := ⟨_, rfl⟩
 have HB := hide (show Below g w W by rw [hW, hg]; exact below_alloc _ _)
 have HG := hide (show Blk W g 37 #[.int .i64 k, .string t, .int .i64 n, .int .i64 gt, .slice A ar.length c, .int .i64 x, .int .i64 y] by rw [hW, hg]; exact Blk.new _ _ _)
 have hsz : W.heap.size = g + 1 := by rw [hW, hg]; simp
 rw [← hm] at hW HG ⊢
 have HBw := HB
 have HC := hide (show ∀ w', Below (g + 1) W w' → w'.cell? ⟨g, 0, none⟩ = some (.int .i64 k) ∧ w'.cell? ⟨g, 1, none⟩ = some (.string t) ∧ w'.cell? ⟨g, 2, none⟩ = some (.int .i64 n) ∧ w'.cell? ⟨g, 3, none⟩ = some (.int .i64 gt) ∧ w'.cell? ⟨g, 4, none⟩ = some (.slice A m c) ∧ w'.cell? ⟨g, 5, none⟩ = some (.int .i64 x) ∧ w'.cell? ⟨g, 6, none⟩ = some (.int .i64 y) from fun w' q => by
  have hb := HG.out.below (show Below W.heap.size W w' by rw [hsz]; exact q)
  refine ⟨?_, ?_, ?_, ?_, ?_, ?_, ?_⟩ <;> (rw [hb.cell]; rfl))
 have HR := hide (fun (w' : World) (kk : Below (g + 1) W w') (i : Nat) (hi : i < m) => arm_cells (hr.below (by rw [← hg]; exact HB.out.trans (kk.mono (Nat.le_succ g)))) i (by rw [← hm]; exact hi))
 have HQu := hide (fun (s : ByteArray) (h : s.size ≤ 100000) (w' : World) => refQuote_c s w' (by omega))
 have HLb := hide (fun (n : Int) (h : InI n) (w' : World) => refLabel_c n w' h)
 have HTk := hide (fun (w' : World) => refText_c n w' hz.n.2)
 have HWd := hide (fun (w' : World) => refWord_c k w')
 have HIg := hide hz.go
 have HIx := hide hz.onT
 have HIy := hide hz.onE
 have HIt := hide hz.text
 have HZa := hide (fun (q : Nat) (hq : q < m) => hz.arm _ (armAt_mem (by rw [← hm]; exact hq)))
 have HSz := hide (fun (q : Nat) (hq : q ≤ m) => arms_len ar hz.arm q (by rw [← hm]; exact hq))
 have HAs := hide (fun (q : Nat) (hq : q < m) => arms_succ ar q (by rw [← hm]; exact hq))
 have HTa := hide (show ar.take m = ar by rw [hm, List.take_length])
 have HOD := hide (opD_eq k t n gt ar x y)
 have h2 := word_len k
 have h3 : (tkT n).length ≤ 21 := tk_len hz.n.2
 have h6 : (labelT gt).length ≤ 22 := label_len hz.go.1 hz.go.2
 have h7 : (quoteT t.data.toList).length ≤ 400002 := by
  have a := quote_len t.data.toList
  have b : t.data.toList.length = t.size := by simp
  have d := hz.text
  simp only at d
  omega
 have hlx : (labelT x).length ≤ 22 := label_len hz.onT.1 hz.onT.2
 have hly : (labelT y).length ≤ 22 := label_len hz.onE.1 hz.onE.2
 have HW := hide hW
 have Hg := hide hg
 have Hsz := hide hsz
 rw [← hg]
 obtain ⟨c0, c1, c2, c3, c4, c5, c6⟩ := HC.out W (Below.refl _ _)
 clear hr hW hg hm hz hsz HG
 go_enter Tryz.func15, Tryz.ntmps15
 go_upto_region 1 with fail
 change Code.wp _ _ _ _ (w.alloc (.cells #[.int .i64 k, .string t, .int .i64 n, .int .i64 gt, .slice A m c, .int .i64 x, .int .i64 y] 37))
 rw [← HW.out, ← Hg.out]
 go_wp2_with fail
 obtain ⟨L0, hL0⟩ : ∃ L0, L0 = wordT k := ⟨_, rfl⟩
 obtain ⟨QT, hQT⟩ : ∃ QT, QT = quoteT t.data.toList := ⟨_, rfl⟩
 obtain ⟨TT, hTT⟩ : ∃ TT, TT = tkT n := ⟨_, rfl⟩
 obtain ⟨GT, hGT⟩ : ∃ GT, GT = labelT gt := ⟨_, rfl⟩
 obtain ⟨XT, hXT⟩ : ∃ XT, XT = labelT x := ⟨_, rfl⟩
 obtain ⟨YT, hYT⟩ : ∃ YT, YT = labelT y := ⟨_, rfl⟩
 have HQt := hide (show ∀ w', Calls Tryz.prog 39 #[.string t] w' fun e w2 => e = .returned (.string (bs QT)) ∧ Below w'.heap.size w' w2 from fun w' => by rw [hQT]; exact HQu.out t HIt.out w')
 have HTt := hide (show ∀ w', Calls Tryz.prog 35 #[.int .i64 n] w' fun e w2 => e = .returned (.string (bs TT)) ∧ w2 = w' from fun w' => by rw [hTT]; exact HTk.out w')
 have HGt := hide (show ∀ w', Calls Tryz.prog 11 #[.int .i64 gt] w' fun e w2 => e = .returned (.string (bs GT)) ∧ w2 = w' from fun w' => by rw [hGT]; exact HLb.out gt HIg.out w')
 have HXt := hide (show ∀ w', Calls Tryz.prog 11 #[.int .i64 x] w' fun e w2 => e = .returned (.string (bs XT)) ∧ w2 = w' from fun w' => by rw [hXT]; exact HLb.out x HIx.out w')
 have HYt := hide (show ∀ w', Calls Tryz.prog 11 #[.int .i64 y] w' fun e w2 => e = .returned (.string (bs YT)) ∧ w2 = w' from fun w' => by rw [hYT]; exact HLb.out y HIy.out w')
 obtain ⟨L1, hL1⟩ : ∃ L1, L1 = L0 ++ (if k = 1 then 32 :: QT else []) := ⟨_, rfl⟩
 obtain ⟨L2, hL2⟩ : ∃ L2, L2 = L1 ++ (if k = 2 ∨ k = 4 then 32 :: TT else []) := ⟨_, rfl⟩
 obtain ⟨L3, hL3⟩ : ∃ L3, L3 = L2 ++ (if k = 3 then 32 :: GT else []) := ⟨_, rfl⟩
 have HOl := hide (show opLine k n gt t = L3 by rw [hL3, hL2, hL1, hL0, hQT, hTT, hGT]; rfl)
 rw [HOl.out, line2_bytes, line2_bytes, ← hXT, ← hYT] at HOD
 rw [← hL0] at h2
 have HWd2 := hide (show ∀ w', Calls Tryz.prog 38 #[.int .i64 k] w' fun e w2 => e = .returned (.string (bs L0)) ∧ Below w'.heap.size w' w2 from fun w' => by rw [hL0]; exact HWd.out w')
 rw [← hQT] at h7
 rw [← hTT] at h3
 rw [← hGT] at h6
 rw [← hXT] at hlx
 rw [← hYT] at hly
 have k1 : L1.length ≤ 400010 := by rw [hL1]; split <;> (simp only [List.length_append, List.length_cons, List.length_nil]; omega)
 have k2 : L2.length ≤ 400040 := by rw [hL2]; split <;> (simp only [List.length_append, List.length_cons, List.length_nil]; omega)
 have k3 : L3.length ≤ 400070 := by rw [hL3]; split <;> (simp only [List.length_append, List.length_cons, List.length_nil]; omega)
 have HL1 := hide hL1
 have HL2 := hide hL2
 have HL3 := hide hL3
 obtain ⟨Sf, hSf⟩ : ∃ Sf : Nat → List UInt8, Sf = fun q => (L3 ++ [10]) ++ (ar.take q).flatMap armT := ⟨_, rfl⟩
 have HS0 := hide (show Sf 0 = L3 ++ [10] by rw [hSf]; simp)
 have HSs := hide (show ∀ q, q < m → Sf (q + 1) = Sf q ++ armT (armAt ar q) from fun q hq => by
  rw [hSf]
  show (L3 ++ [10]) ++ (ar.take (q + 1)).flatMap armT = (L3 ++ [10]) ++ (ar.take q).flatMap armT ++ armT (armAt ar q)
  rw [HAs.out q hq, ← List.append_assoc])
 have HSl := hide (show ∀ q, q ≤ m → (Sf q).length ≤ 400080 + 1060 * q from fun q hq => by
  have := HSz.out q hq
  rw [hSf]
  simp only [List.length_append, List.length_cons, List.length_nil]
  omega)
 have HSe := hide (show (L3 ++ [10]) ++ ar.flatMap armT = Sf m by rw [hSf]; show _ = (L3 ++ [10]) ++ (ar.take m).flatMap armT; rw [HTa.out])
 rw [HSe.out] at HOD
 clear hL0 hQT hTT hGT hXT hYT hL1 hL2 hL3 hSf HQu HTk HSz HAs HTa HSe HOl HIg HIx HIy
 refine (HWd2.out _).mono ?_
 rintro e V1 ⟨rfl, hb1⟩
 have HB1 := hide (show Below (g + 1) W V1 by rw [← Hsz.out]; exact hb1)
 clear hb1 c0 c1 c2 c3 c4 c5 c6 HWd HWd2 HB
 obtain ⟨c0, c1, c2, c3, c4, c5, c6⟩ := HC.out V1 HB1.out
 go_upto_if 10 with fail
 go_cut [3] from 10 to 99 (fun v wx => v = .string (bs L1) ∧ Hid (Below (g + 1) W wx))
 case first =>
  by_cases e : k = 1
  case pos =>
   have d1 : (k == 1) = true := by simp; exact e
   have z0 : (bs (L0)).size + ((⟨#[32]⟩ : ByteArray)).size ≤ 9223372036854775807 := by simp only [ByteArray.size_append, bs_size, (show (⟨#[32]⟩ : ByteArray).size = 1 from rfl)]; omega
   have z1 : (bs (L0) ++ (⟨#[32]⟩ : ByteArray)).size + (bs (QT)).size ≤ 9223372036854775807 := by simp only [ByteArray.size_append, bs_size, (show (⟨#[32]⟩ : ByteArray).size = 1 from rfl)]; omega
   have HF := hide (show bs (L0) ++ (⟨#[32]⟩ : ByteArray) ++ bs (QT) = bs (L0 ++ 32 :: QT) by show bs (L0) ++ bs [32] ++ bs (QT) = _; simp only [bs_append]; try (congr 1; simp [List.append_assoc]))
   have HE := hide (show L1 = L0 ++ 32 :: QT by rw [HL1.out, if_pos e])
   clear e
   go_wp2_with fail
   refine (HQt.out _).mono ?_
   rintro e V2 ⟨rfl, hb2⟩
   have HB2 := hide (HB1.out.trans (hb2.mono (by have := HB1.out.size; have := Hsz.out; omega)))
   clear hb2
   go_wp2_with fail
   go_meet
   exact ⟨by rw [HE.out, ← HF.out], HB2⟩
  case neg =>
   have d1 : (k == 1) = false := by simp; exact e
   have HE := hide (show L1 = L0 by rw [HL1.out, if_neg e, List.append_nil])
   clear e
   go_wp2_with fail
   go_meet
   exact ⟨by rw [HE.out], HB1⟩

 case rest =>
  obtain ⟨rfl, HB2⟩ := hcut
  clear c0 c1 c2 c3 c4 c5 c6 HB1
  obtain ⟨c0, c1, c2, c3, c4, c5, c6⟩ := HC.out wc HB2.out
  obtain ⟨b24, hb24⟩ : ∃ b24, b24 = decide (k = 2 ∨ k = 4) := ⟨_, rfl⟩
  have HB24 := hide hb24
  clear hb24
  go_upto_region 4 with fail
  go_cut [24] from 10 to 99 (fun v wx => v = .bool b24 ∧ Hid (Below (g + 1) W wx))
  case first =>
   by_cases e2 : k = 2
   case pos =>
    have d1 : (k == 2) = true := by simp; exact e2
    have HQ := hide (show b24 = true by rw [HB24.out]; simp [e2])
    clear e2
    go_wp2_with fail
    go_meet
    exact ⟨by rw [HQ.out], HB2⟩
   case neg =>
    have d1 : (k == 2) = false := by simp; exact e2
    by_cases e4 : k = 4
    case pos =>
     have d2 : (k == 4) = true := by simp; exact e4
     have HQ := hide (show b24 = true by rw [HB24.out]; simp [e4])
     clear e2 e4
     go_wp2_with fail
     go_meet
     exact ⟨by rw [HQ.out], HB2⟩
    case neg =>
     have d2 : (k == 4) = false := by simp; exact e4
     have HQ := hide (show b24 = false by rw [HB24.out]; simp [e2, e4])
     clear e2 e4
     go_wp2_with fail
     go_meet
     exact ⟨by rw [HQ.out], HB2⟩
  case rest =>
   obtain ⟨rfl, HB3⟩ := hcut
   clear c0 c1 c2 c3 c4 c5 c6 HB2
   obtain ⟨c0, c1, c2, c3, c4, c5, c6⟩ := HC.out wc HB3.out
   go_upto_if 24 with fail
   go_cut [3] from 10 to 99 (fun v wx => v = .string (bs L2) ∧ Hid (Below (g + 1) W wx))
   case first =>
    by_cases e : k = 2 ∨ k = 4
    case pos =>
     obtain rfl : b24 = true := by rw [HB24.out]; simp [e]
     have z0 : (bs (L1)).size + ((⟨#[32]⟩ : ByteArray)).size ≤ 9223372036854775807 := by simp only [ByteArray.size_append, bs_size, (show (⟨#[32]⟩ : ByteArray).size = 1 from rfl)]; omega
     have z1 : (bs (L1) ++ (⟨#[32]⟩ : ByteArray)).size + (bs (TT)).size ≤ 9223372036854775807 := by simp only [ByteArray.size_append, bs_size, (show (⟨#[32]⟩ : ByteArray).size = 1 from rfl)]; omega
     have HF := hide (show bs (L1) ++ (⟨#[32]⟩ : ByteArray) ++ bs (TT) = bs (L1 ++ 32 :: TT) by show bs (L1) ++ bs [32] ++ bs (TT) = _; simp only [bs_append]; try (congr 1; simp [List.append_assoc]))
     have HE := hide (show L2 = L1 ++ 32 :: TT by rw [HL2.out, if_pos e])
     clear e
     go_wp2_with fail
     refine (HTt.out _).mono ?_
     rintro e V2 ⟨rfl, hb2⟩
     rw [hb2]
     clear hb2
     go_wp2_with fail
     go_meet
     exact ⟨by rw [HE.out, ← HF.out], HB3⟩
    case neg =>
     obtain rfl : b24 = false := by rw [HB24.out]; simp [e]
     have HE := hide (show L2 = L1 by rw [HL2.out, if_neg e, List.append_nil])
     clear e
     go_wp2_with fail
     go_meet
     exact ⟨by rw [HE.out], HB3⟩

   case rest =>
    obtain ⟨rfl, HB4⟩ := hcut
    clear c0 c1 c2 c3 c4 c5 c6 HB3
    obtain ⟨c0, c1, c2, c3, c4, c5, c6⟩ := HC.out wc HB4.out
    go_upto_if 33 with fail
    go_cut [3] from 10 to 99 (fun v wx => v = .string (bs L3) ∧ Hid (Below (g + 1) W wx))
    case first =>
     by_cases e : k = 3
     case pos =>
      have d1 : (k == 3) = true := by simp; exact e
      have z0 : (bs (L2)).size + ((⟨#[32]⟩ : ByteArray)).size ≤ 9223372036854775807 := by simp only [ByteArray.size_append, bs_size, (show (⟨#[32]⟩ : ByteArray).size = 1 from rfl)]; omega
      have z1 : (bs (L2) ++ (⟨#[32]⟩ : ByteArray)).size + (bs (GT)).size ≤ 9223372036854775807 := by simp only [ByteArray.size_append, bs_size, (show (⟨#[32]⟩ : ByteArray).size = 1 from rfl)]; omega
      have HF := hide (show bs (L2) ++ (⟨#[32]⟩ : ByteArray) ++ bs (GT) = bs (L2 ++ 32 :: GT) by show bs (L2) ++ bs [32] ++ bs (GT) = _; simp only [bs_append]; try (congr 1; simp [List.append_assoc]))
      have HE := hide (show L3 = L2 ++ 32 :: GT by rw [HL3.out, if_pos e])
      clear e
      go_wp2_with fail
      refine (HGt.out _).mono ?_
      rintro e V2 ⟨rfl, hb2⟩
      rw [hb2]
      clear hb2
      go_wp2_with fail
      go_meet
      exact ⟨by rw [HE.out, ← HF.out], HB4⟩
     case neg =>
      have d1 : (k == 3) = false := by simp; exact e
      have HE := hide (show L3 = L2 by rw [HL3.out, if_neg e, List.append_nil])
      clear e
      go_wp2_with fail
      go_meet
      exact ⟨by rw [HE.out], HB4⟩

    case rest =>
     obtain ⟨rfl, HB5⟩ := hcut
     clear c0 c1 c2 c3 c4 c5 c6 HB4
     have z0 : (bs (L3)).size + ((⟨#[10]⟩ : ByteArray)).size ≤ 9223372036854775807 := by simp only [ByteArray.size_append, bs_size, (show (⟨#[10]⟩ : ByteArray).size = 1 from rfl)]; omega
     have HF := hide (show bs (L3) ++ (⟨#[10]⟩ : ByteArray) = bs (L3 ++ [10]) by show bs (L3) ++ bs [10] = _; simp only [bs_append]; try (congr 1; simp [List.append_assoc]))
     rw [← HS0.out] at HF
     go_wp2_with fail
     go_loopw [3, 4] (fun v i wr => ∃ q : Nat, q ≤ m ∧ v = .string (bs (Sf q)) ∧ i = .int .i64 q ∧ Hid (Below (g + 1) W wr)) (fun _ i _ => m - (intOf i).toNat)
     case atStart => exact ⟨0, Nat.zero_le _, by rw [← HF.out], rfl, HB5⟩
     case round =>
      clear HB5 HF z0 HL1 HL2 HL3 HS0 HTt HGt HQt
      obtain ⟨q, hq, rfl, rfl, HB6⟩ := hrel
      have w0 : IntKind.i64.wrap ((q : Int) + 1) = (q : Int) + 1 := IntWalk.i64_in _ (by omega)
      have hsl := HSl.out q hq
      obtain ⟨c0, c1, c2, c3, c4, c5, c6⟩ := HC.out wr HB6.out
      by_cases hlt : q < m
      case neg =>
       obtain ⟨hqm, _⟩ : q = m ∧ True := ⟨by omega, trivial⟩
       have d1 : decide ((q : Int) < (m : Int)) = false := by simp; omega
       have d2 : decide (q < m) = false := by simp; omega
       rw [← hqm] at HOD
       clear hqm
       obtain ⟨SE, hSE⟩ : ∃ SE, SE = Sf q := ⟨_, rfl⟩
       rw [← hSE] at HOD hsl ⊢
       clear hSE
       have hse : SE.length ≤ 700000 := by omega
       by_cases e2 : k = 2
       case neg =>
        have d3 : (k == 2) = false := by simp; exact e2
        rw [if_neg (fun h => e2 h.1), if_neg (fun h => e2 h.1), List.append_nil, List.append_nil] at HOD
        clear e2
        go_wp2_with fail
        go_ret
        exact ⟨by rw [HOD.out]; rfl, HBw.out.trans (HB6.out.mono (Nat.le_succ g))⟩
       case pos =>
        have d3 : (k == 2) = true := by simp; exact e2
        have HE2 := hide e2
        clear e2
        by_cases hx : x = -1
        case neg =>
         have d4 : (x == -1) = false := by simp; exact hx
         have d5 : (x != -1) = true := by simp; exact hx
         rw [if_pos ⟨HE2.out, hx⟩] at HOD
         by_cases hy : y = -1
         case neg =>
          have d6 : (y == -1) = false := by simp; exact hy
          have d7 : (y != -1) = true := by simp; exact hy
          rw [if_pos ⟨HE2.out, hy⟩] at HOD
          clear hx hy
          have z0 : (bs (SE)).size + ((⟨#[116, 105, 109, 101, 111, 117, 116, 32]⟩ : ByteArray)).size ≤ 9223372036854775807 := by simp only [ByteArray.size_append, bs_size, (show (⟨#[116, 105, 109, 101, 111, 117, 116, 32]⟩ : ByteArray).size = 8 from rfl), (show (⟨#[10]⟩ : ByteArray).size = 1 from rfl), (show (⟨#[101, 111, 102, 32]⟩ : ByteArray).size = 4 from rfl)]; omega
          have z1 : (bs (SE) ++ (⟨#[116, 105, 109, 101, 111, 117, 116, 32]⟩ : ByteArray)).size + (bs (XT)).size ≤ 9223372036854775807 := by simp only [ByteArray.size_append, bs_size, (show (⟨#[116, 105, 109, 101, 111, 117, 116, 32]⟩ : ByteArray).size = 8 from rfl), (show (⟨#[10]⟩ : ByteArray).size = 1 from rfl), (show (⟨#[101, 111, 102, 32]⟩ : ByteArray).size = 4 from rfl)]; omega
          have z2 : (bs (SE) ++ (⟨#[116, 105, 109, 101, 111, 117, 116, 32]⟩ : ByteArray) ++ bs (XT)).size + ((⟨#[10]⟩ : ByteArray)).size ≤ 9223372036854775807 := by simp only [ByteArray.size_append, bs_size, (show (⟨#[116, 105, 109, 101, 111, 117, 116, 32]⟩ : ByteArray).size = 8 from rfl), (show (⟨#[10]⟩ : ByteArray).size = 1 from rfl), (show (⟨#[101, 111, 102, 32]⟩ : ByteArray).size = 4 from rfl)]; omega
          have z3 : (bs (SE) ++ (⟨#[116, 105, 109, 101, 111, 117, 116, 32]⟩ : ByteArray) ++ bs (XT) ++ (⟨#[10]⟩ : ByteArray)).size + ((⟨#[101, 111, 102, 32]⟩ : ByteArray)).size ≤ 9223372036854775807 := by simp only [ByteArray.size_append, bs_size, (show (⟨#[116, 105, 109, 101, 111, 117, 116, 32]⟩ : ByteArray).size = 8 from rfl), (show (⟨#[10]⟩ : ByteArray).size = 1 from rfl), (show (⟨#[101, 111, 102, 32]⟩ : ByteArray).size = 4 from rfl)]; omega
          have z4 : (bs (SE) ++ (⟨#[116, 105, 109, 101, 111, 117, 116, 32]⟩ : ByteArray) ++ bs (XT) ++ (⟨#[10]⟩ : ByteArray) ++ (⟨#[101, 111, 102, 32]⟩ : ByteArray)).size + (bs (YT)).size ≤ 9223372036854775807 := by simp only [ByteArray.size_append, bs_size, (show (⟨#[116, 105, 109, 101, 111, 117, 116, 32]⟩ : ByteArray).size = 8 from rfl), (show (⟨#[10]⟩ : ByteArray).size = 1 from rfl), (show (⟨#[101, 111, 102, 32]⟩ : ByteArray).size = 4 from rfl)]; omega
          have z5 : (bs (SE) ++ (⟨#[116, 105, 109, 101, 111, 117, 116, 32]⟩ : ByteArray) ++ bs (XT) ++ (⟨#[10]⟩ : ByteArray) ++ (⟨#[101, 111, 102, 32]⟩ : ByteArray) ++ bs (YT)).size + ((⟨#[10]⟩ : ByteArray)).size ≤ 9223372036854775807 := by simp only [ByteArray.size_append, bs_size, (show (⟨#[116, 105, 109, 101, 111, 117, 116, 32]⟩ : ByteArray).size = 8 from rfl), (show (⟨#[10]⟩ : ByteArray).size = 1 from rfl), (show (⟨#[101, 111, 102, 32]⟩ : ByteArray).size = 4 from rfl)]; omega
          have HF := hide (show bs (SE) ++ (⟨#[116, 105, 109, 101, 111, 117, 116, 32]⟩ : ByteArray) ++ bs (XT) ++ (⟨#[10]⟩ : ByteArray) ++ (⟨#[101, 111, 102, 32]⟩ : ByteArray) ++ bs (YT) ++ (⟨#[10]⟩ : ByteArray) = bs (SE ++ ([116, 105, 109, 101, 111, 117, 116] ++ 32 :: (XT ++ [10])) ++ ([101, 111, 102] ++ 32 :: (YT ++ [10]))) by show bs (SE) ++ bs [116, 105, 109, 101, 111, 117, 116, 32] ++ bs (XT) ++ bs [10] ++ bs [101, 111, 102, 32] ++ bs (YT) ++ bs [10] = _; simp only [bs_append]; try (congr 1; simp [List.append_assoc]))
          go_wp2_with fail
          refine (HXt.out _).mono ?_
          rintro e V2 ⟨rfl, hb2⟩
          rw [hb2]
          clear hb2
          go_wp2_with fail
          refine (HYt.out _).mono ?_
          rintro e V2 ⟨rfl, hb2⟩
          rw [hb2]
          clear hb2
          go_wp2_with fail
          go_ret
          exact ⟨by rw [HOD.out, ← HF.out]; rfl, HBw.out.trans (HB6.out.mono (Nat.le_succ g))⟩
         case pos =>
          have d6 : (y == -1) = true := by simp; exact hy
          have d7 : (y != -1) = false := by simp; exact hy
          rw [if_neg (fun h => h.2 hy), List.append_nil] at HOD
          clear hx hy
          have z0 : (bs (SE)).size + ((⟨#[116, 105, 109, 101, 111, 117, 116, 32]⟩ : ByteArray)).size ≤ 9223372036854775807 := by simp only [ByteArray.size_append, bs_size, (show (⟨#[116, 105, 109, 101, 111, 117, 116, 32]⟩ : ByteArray).size = 8 from rfl), (show (⟨#[10]⟩ : ByteArray).size = 1 from rfl)]; omega
          have z1 : (bs (SE) ++ (⟨#[116, 105, 109, 101, 111, 117, 116, 32]⟩ : ByteArray)).size + (bs (XT)).size ≤ 9223372036854775807 := by simp only [ByteArray.size_append, bs_size, (show (⟨#[116, 105, 109, 101, 111, 117, 116, 32]⟩ : ByteArray).size = 8 from rfl), (show (⟨#[10]⟩ : ByteArray).size = 1 from rfl)]; omega
          have z2 : (bs (SE) ++ (⟨#[116, 105, 109, 101, 111, 117, 116, 32]⟩ : ByteArray) ++ bs (XT)).size + ((⟨#[10]⟩ : ByteArray)).size ≤ 9223372036854775807 := by simp only [ByteArray.size_append, bs_size, (show (⟨#[116, 105, 109, 101, 111, 117, 116, 32]⟩ : ByteArray).size = 8 from rfl), (show (⟨#[10]⟩ : ByteArray).size = 1 from rfl)]; omega
          have HF := hide (show bs (SE) ++ (⟨#[116, 105, 109, 101, 111, 117, 116, 32]⟩ : ByteArray) ++ bs (XT) ++ (⟨#[10]⟩ : ByteArray) = bs (SE ++ ([116, 105, 109, 101, 111, 117, 116] ++ 32 :: (XT ++ [10]))) by show bs (SE) ++ bs [116, 105, 109, 101, 111, 117, 116, 32] ++ bs (XT) ++ bs [10] = _; simp only [bs_append]; try (congr 1; simp [List.append_assoc]))
          go_wp2_with fail
          refine (HXt.out _).mono ?_
          rintro e V2 ⟨rfl, hb2⟩
          rw [hb2]
          clear hb2
          go_wp2_with fail
          go_ret
          exact ⟨by rw [HOD.out, ← HF.out]; rfl, HBw.out.trans (HB6.out.mono (Nat.le_succ g))⟩
        case pos =>
         have d4 : (x == -1) = true := by simp; exact hx
         have d5 : (x != -1) = false := by simp; exact hx
         rw [if_neg (fun h => h.2 hx), List.append_nil] at HOD
         by_cases hy : y = -1
         case neg =>
          have d6 : (y == -1) = false := by simp; exact hy
          have d7 : (y != -1) = true := by simp; exact hy
          rw [if_pos ⟨HE2.out, hy⟩] at HOD
          clear hx hy
          have z0 : (bs (SE)).size + ((⟨#[101, 111, 102, 32]⟩ : ByteArray)).size ≤ 9223372036854775807 := by simp only [ByteArray.size_append, bs_size, (show (⟨#[101, 111, 102, 32]⟩ : ByteArray).size = 4 from rfl), (show (⟨#[10]⟩ : ByteArray).size = 1 from rfl)]; omega
          have z1 : (bs (SE) ++ (⟨#[101, 111, 102, 32]⟩ : ByteArray)).size + (bs (YT)).size ≤ 9223372036854775807 := by simp only [ByteArray.size_append, bs_size, (show (⟨#[101, 111, 102, 32]⟩ : ByteArray).size = 4 from rfl), (show (⟨#[10]⟩ : ByteArray).size = 1 from rfl)]; omega
          have z2 : (bs (SE) ++ (⟨#[101, 111, 102, 32]⟩ : ByteArray) ++ bs (YT)).size + ((⟨#[10]⟩ : ByteArray)).size ≤ 9223372036854775807 := by simp only [ByteArray.size_append, bs_size, (show (⟨#[101, 111, 102, 32]⟩ : ByteArray).size = 4 from rfl), (show (⟨#[10]⟩ : ByteArray).size = 1 from rfl)]; omega
          have HF := hide (show bs (SE) ++ (⟨#[101, 111, 102, 32]⟩ : ByteArray) ++ bs (YT) ++ (⟨#[10]⟩ : ByteArray) = bs (SE ++ ([101, 111, 102] ++ 32 :: (YT ++ [10]))) by show bs (SE) ++ bs [101, 111, 102, 32] ++ bs (YT) ++ bs [10] = _; simp only [bs_append]; try (congr 1; simp [List.append_assoc]))
          go_wp2_with fail
          refine (HYt.out _).mono ?_
          rintro e V2 ⟨rfl, hb2⟩
          rw [hb2]
          clear hb2
          go_wp2_with fail
          go_ret
          exact ⟨by rw [HOD.out, ← HF.out]; rfl, HBw.out.trans (HB6.out.mono (Nat.le_succ g))⟩
         case pos =>
          have d6 : (y == -1) = true := by simp; exact hy
          have d7 : (y != -1) = false := by simp; exact hy
          rw [if_neg (fun h => h.2 hy), List.append_nil] at HOD
          clear hx hy
          go_wp2_with fail
          go_ret
          exact ⟨by rw [HOD.out]; rfl, HBw.out.trans (HB6.out.mono (Nat.le_succ g))⟩
      case pos =>
       have d1 : decide ((q : Int) < (m : Int)) = true := by simp; exact hlt
       have d2 : decide (q < m) = true := by simp; exact hlt
       have j1 : (0 : Int) ≤ (q : Int) := by omega
       have j2 : (q : Int) < (m : Int) := by omega
       obtain ⟨ab, ao, hA⟩ : ∃ ab ao, A = some ⟨ab, ao, none⟩ := by
        obtain ⟨ab, ao, hA, _⟩ := HR.out wr HB6.out q hlt
        exact ⟨ab, ao, hA⟩
       subst hA
       have HAr := hide (show ∀ w', Below (g + 1) W w' → w'.cell? ⟨g, 4, none⟩ = some (.slice (some ⟨ab, ao, none⟩) m c) ∧ w'.cell? ⟨ab, ao + q * 2, none⟩ = some (.string (armAt ar q).pat) ∧ w'.cell? ⟨ab, ao + q * 2 + 1, none⟩ = some (.int .i64 (armAt ar q).to) from fun w' kk => by
        obtain ⟨ab2, ao2, hA2, _, a0, a1⟩ := HR.out w' kk q hlt
        injection hA2 with hA2
        injection hA2 with e1 e2 _
        subst e1; subst e2
        exact ⟨(HC.out w' kk).2.2.2.2.1, a0, a1⟩)
       have HSq := hide (HSs.out q hlt)
       have HZq := hide (HZa.out q hlt)
       obtain ⟨u, hu⟩ : ∃ u, u = armAt ar q := ⟨_, rfl⟩
       rw [← hu] at HAr HSq HZq
       clear hu hlt c0 c1 c2 c3 c5 c6
       rw [arm_bytes] at HSq
       obtain ⟨SE, hSE⟩ : ∃ SE, SE = Sf q := ⟨_, rfl⟩
       rw [← hSE] at HSq hsl ⊢
       clear hSE
       obtain ⟨QP, hQP⟩ : ∃ QP, QP = quoteT u.pat.data.toList := ⟨_, rfl⟩
       obtain ⟨LP, hLP⟩ : ∃ LP, LP = labelT u.to := ⟨_, rfl⟩
       have hqp : QP.length ≤ 1026 := by
        have a := quote_len u.pat.data.toList
        have b : u.pat.data.toList.length = u.pat.size := by simp
        have d := HZq.out.1
        rw [hQP]; omega
       have hlp : LP.length ≤ 22 := by rw [hLP]; exact label_len HZq.out.2.1 HZq.out.2.2
       have HQp := hide (show ∀ w', Calls Tryz.prog 39 #[.string u.pat] w' fun e w2 => e = .returned (.string (bs QP)) ∧ Below w'.heap.size w' w2 from fun w' => by rw [hQP]; exact refQuote_c u.pat w' (by have := HZq.out.1; omega))
       have HLp := hide (show ∀ w', Calls Tryz.prog 11 #[.int .i64 u.to] w' fun e w2 => e = .returned (.string (bs LP)) ∧ w2 = w' from fun w' => by rw [hLP]; exact HLb.out u.to HZq.out.2 w')
       rw [← hQP, ← hLP] at HSq
       clear hQP hLP
       go_upto_region 12 with fail
       obtain ⟨V0, hV0⟩ : ∃ V9, V9 = wr.drew := ⟨_, rfl⟩
       have HB0 := hide (show Below (g + 1) W V0 by rw [hV0]; exact HB6.out.drew)
       have z0 : (bs (SE)).size + ((⟨#[111, 110, 32]⟩ : ByteArray)).size ≤ 9223372036854775807 := by simp only [ByteArray.size_append, bs_size, (show (⟨#[111, 110, 32]⟩ : ByteArray).size = 3 from rfl), (show (⟨#[32]⟩ : ByteArray).size = 1 from rfl), (show (⟨#[10]⟩ : ByteArray).size = 1 from rfl)]; omega
       have nz0 : (9223372036854775807 < (SE).length + 3) = False := by simp; omega
       have z1 : (bs (SE) ++ (⟨#[111, 110, 32]⟩ : ByteArray)).size + (bs (QP)).size ≤ 9223372036854775807 := by simp only [ByteArray.size_append, bs_size, (show (⟨#[111, 110, 32]⟩ : ByteArray).size = 3 from rfl), (show (⟨#[32]⟩ : ByteArray).size = 1 from rfl), (show (⟨#[10]⟩ : ByteArray).size = 1 from rfl)]; omega
       have nz1 : (9223372036854775807 < (SE).length + 3 + (QP).length) = False := by simp; omega
       have z2 : (bs (SE) ++ (⟨#[111, 110, 32]⟩ : ByteArray) ++ bs (QP)).size + ((⟨#[32]⟩ : ByteArray)).size ≤ 9223372036854775807 := by simp only [ByteArray.size_append, bs_size, (show (⟨#[111, 110, 32]⟩ : ByteArray).size = 3 from rfl), (show (⟨#[32]⟩ : ByteArray).size = 1 from rfl), (show (⟨#[10]⟩ : ByteArray).size = 1 from rfl)]; omega
       have nz2 : (9223372036854775807 < (SE).length + 3 + (QP).length + 1) = False := by simp; omega
       have z3 : (bs (SE) ++ (⟨#[111, 110, 32]⟩ : ByteArray) ++ bs (QP) ++ (⟨#[32]⟩ : ByteArray)).size + (bs (LP)).size ≤ 9223372036854775807 := by simp only [ByteArray.size_append, bs_size, (show (⟨#[111, 110, 32]⟩ : ByteArray).size = 3 from rfl), (show (⟨#[32]⟩ : ByteArray).size = 1 from rfl), (show (⟨#[10]⟩ : ByteArray).size = 1 from rfl)]; omega
       have nz3 : (9223372036854775807 < (SE).length + 3 + (QP).length + 1 + (LP).length) = False := by simp; omega
       have z4 : (bs (SE) ++ (⟨#[111, 110, 32]⟩ : ByteArray) ++ bs (QP) ++ (⟨#[32]⟩ : ByteArray) ++ bs (LP)).size + ((⟨#[10]⟩ : ByteArray)).size ≤ 9223372036854775807 := by simp only [ByteArray.size_append, bs_size, (show (⟨#[111, 110, 32]⟩ : ByteArray).size = 3 from rfl), (show (⟨#[32]⟩ : ByteArray).size = 1 from rfl), (show (⟨#[10]⟩ : ByteArray).size = 1 from rfl)]; omega
       have nz4 : (9223372036854775807 < (SE).length + 3 + (QP).length + 1 + (LP).length + 1) = False := by simp; omega
       have HF := hide (show bs (SE) ++ (⟨#[111, 110, 32]⟩ : ByteArray) ++ bs (QP) ++ (⟨#[32]⟩ : ByteArray) ++ bs (LP) ++ (⟨#[10]⟩ : ByteArray) = bs (SE ++ ([111, 110, 32] ++ QP ++ [32] ++ LP ++ [10])) by show bs (SE) ++ bs [111, 110, 32] ++ bs (QP) ++ bs [32] ++ bs (LP) ++ bs [10] = _; simp only [bs_append]; try (congr 1; simp [List.append_assoc]))
       refine wp_region_held (S := fun w' => w'.cell? ⟨g, 4, none⟩ = some (.slice (some ⟨ab, ao, none⟩) m c) ∧ w'.cell? ⟨ab, ao + q * 2, none⟩ = some (.string u.pat) ∧ w'.cell? ⟨ab, ao + q * 2 + 1, none⟩ = some (.int .i64 u.to)) (by kernel_rfl) ?_
       change wpAnyH _ _ _ _ _ _ _ _ wr.drew
       have hHeld : (fun w' => w'.cell? ⟨g, 4, none⟩ = some (.slice (some ⟨ab, ao, none⟩) m c) ∧ w'.cell? ⟨ab, ao + q * 2, none⟩ = some (.string u.pat) ∧ w'.cell? ⟨ab, ao + q * 2 + 1, none⟩ = some (.int .i64 u.to)) wr.drew := (by rw [← hV0]; exact HAr.out V0 HB0.out)
       rw [← hV0] at hHeld ⊢
       simp only [List.size_toArray, List.length_cons, List.length_nil, Nat.zero_add, Nat.reduceAdd]
       clear hV0
       refine wpAnyH_take (i := 0) (v := ?_) rfl (by kernel_rfl) (by kernel_rfl) (by kernel_rfl) (fun _ _ _ h => h) (Or.inl ⟨by rfl, ?_⟩) (by assumption) ?_
       rotate_left
       ·(intro w9 hS9; (try simp only [List.getElem_toArray, List.getElem_cons_zero, List.getElem_cons_succ]); go_simp <;> rfl)
       try simp only [Act.put, List.setIfInBounds_toArray, List.set_cons_zero, List.set_cons_succ, List.getElem_toArray, List.getElem_cons_zero, List.getElem_cons_succ]
       refine wpAnyH_take (i := 1) (v := ?_) rfl (by kernel_rfl) (by kernel_rfl) (by kernel_rfl) (fun _ _ _ h => h) (Or.inl ⟨by rfl, ?_⟩) (by assumption) ?_
       rotate_left
       ·(intro w9 hS9; (try simp only [List.getElem_toArray, List.getElem_cons_zero, List.getElem_cons_succ]); go_simp <;> rfl)
       try simp only [Act.put, List.setIfInBounds_toArray, List.set_cons_zero, List.set_cons_succ, List.getElem_toArray, List.getElem_cons_zero, List.getElem_cons_succ]
       refine wpAnyH_take (i := 2) (v := ?_) rfl (by kernel_rfl) (by kernel_rfl) (by kernel_rfl) (fun _ _ _ h => h) (Or.inl ⟨by rfl, ?_⟩) (by assumption) ?_
       rotate_left
       ·(intro w9 hS9; (try simp only [List.getElem_toArray, List.getElem_cons_zero, List.getElem_cons_succ]); go_simp <;> rfl)
       try simp only [Act.put, List.setIfInBounds_toArray, List.set_cons_zero, List.set_cons_succ, List.getElem_toArray, List.getElem_cons_zero, List.getElem_cons_succ]
       refine wpAnyH_take (i := 3) (v := ?_) rfl (by kernel_rfl) (by kernel_rfl) (by kernel_rfl) (fun _ _ _ h => h) (Or.inl ⟨by rfl, ?_⟩) (by assumption) ?_
       rotate_left
       ·(intro w9 hS9; (try simp only [List.getElem_toArray, List.getElem_cons_zero, List.getElem_cons_succ]); go_simp <;> rfl)
       try simp only [Act.put, List.setIfInBounds_toArray, List.set_cons_zero, List.set_cons_succ, List.getElem_toArray, List.getElem_cons_zero, List.getElem_cons_succ]
       refine wpAnyH_take (i := 4) (v := ?_) rfl (by kernel_rfl) (by kernel_rfl) (by kernel_rfl) (fun _ _ _ h => h) (Or.inl ⟨by rfl, ?_⟩) (by assumption) ?_
       rotate_left
       ·(intro w9 hS9; (try simp only [List.getElem_toArray, List.getElem_cons_zero, List.getElem_cons_succ]); go_simp <;> rfl)
       try simp only [Act.put, List.setIfInBounds_toArray, List.set_cons_zero, List.set_cons_succ, List.getElem_toArray, List.getElem_cons_zero, List.getElem_cons_succ]
       refine wpAnyH_take (i := 5) (v := ?_) rfl (by kernel_rfl) (by kernel_rfl) (by kernel_rfl) (fun _ _ _ h => h) (Or.inl ⟨by rfl, ?_⟩) (by assumption) ?_
       rotate_left
       ·(intro w9 hS9; (try simp only [List.getElem_toArray, List.getElem_cons_zero, List.getElem_cons_succ]); go_simp <;> rfl)
       try simp only [Act.put, List.setIfInBounds_toArray, List.set_cons_zero, List.set_cons_succ, List.getElem_toArray, List.getElem_cons_zero, List.getElem_cons_succ]
       refine wpAnyH_take (i := 6) (v := ?_) rfl (by kernel_rfl) (by kernel_rfl) (by kernel_rfl) (fun _ _ _ h => h) (Or.inl ⟨by rfl, ?_⟩) (by assumption) ?_
       rotate_left
       ·(intro w9 hS9; (try simp only [List.getElem_toArray, List.getElem_cons_zero, List.getElem_cons_succ]); go_simp <;> rfl)
       try simp only [Act.put, List.setIfInBounds_toArray, List.set_cons_zero, List.set_cons_succ, List.getElem_toArray, List.getElem_cons_zero, List.getElem_cons_succ]
       refine wpAnyH_take (i := 7) (v := ?_) rfl (by kernel_rfl) (by kernel_rfl) (by kernel_rfl) (fun _ _ _ h => h) (Or.inl ⟨by rfl, ?_⟩) (by assumption) ?_
       rotate_left
       ·(intro w9 hS9; (try simp only [List.getElem_toArray, List.getElem_cons_zero, List.getElem_cons_succ]); go_simp <;> rfl)
       try simp only [Act.put, List.setIfInBounds_toArray, List.set_cons_zero, List.set_cons_succ, List.getElem_toArray, List.getElem_cons_zero, List.getElem_cons_succ]
       refine wpAnyH_take (i := 11) (v := ?_) rfl (by kernel_rfl) (by kernel_rfl) (by kernel_rfl) (fun _ _ _ h => h) (Or.inl ⟨by rfl, ?_⟩) (by assumption) ?_
       rotate_left
       ·(intro w9 hS9; (try simp only [List.getElem_toArray, List.getElem_cons_zero, List.getElem_cons_succ]); go_simp <;> rfl)
       try simp only [Act.put, List.setIfInBounds_toArray, List.set_cons_zero, List.set_cons_succ, List.getElem_toArray, List.getElem_cons_zero, List.getElem_cons_succ]
       refine wpAnyH_take (i := 12) (v := ?_) rfl (by kernel_rfl) (by kernel_rfl) (by kernel_rfl) (fun _ _ _ h => h) (Or.inl ⟨by rfl, ?_⟩) (by assumption) ?_
       rotate_left
       ·(intro w9 hS9; (try simp only [List.getElem_toArray, List.getElem_cons_zero, List.getElem_cons_succ]); go_simp <;> rfl)
       try simp only [Act.put, List.setIfInBounds_toArray, List.set_cons_zero, List.set_cons_succ, List.getElem_toArray, List.getElem_cons_zero, List.getElem_cons_succ]
       refine wpAnyH_take (i := 13) (v := ?_) rfl (by kernel_rfl) (by kernel_rfl) (by kernel_rfl) (fun _ _ _ h => h) (Or.inl ⟨by rfl, ?_⟩) (by assumption) ?_
       rotate_left
       ·(intro w9 hS9; (try simp only [List.getElem_toArray, List.getElem_cons_zero, List.getElem_cons_succ]); go_simp <;> rfl)
       try simp only [Act.put, List.setIfInBounds_toArray, List.set_cons_zero, List.set_cons_succ, List.getElem_toArray, List.getElem_cons_zero, List.getElem_cons_succ]
       refine wpAnyH_take (i := 14) (v := ?_) rfl (by kernel_rfl) (by kernel_rfl) (by kernel_rfl) (fun _ _ _ h => h) (Or.inl ⟨by rfl, ?_⟩) (by assumption) ?_
       rotate_left
       ·(intro w9 hS9; (try simp only [List.getElem_toArray, List.getElem_cons_zero, List.getElem_cons_succ]); go_simp <;> rfl)
       try simp only [Act.put, List.setIfInBounds_toArray, List.set_cons_zero, List.set_cons_succ, List.getElem_toArray, List.getElem_cons_zero, List.getElem_cons_succ]
       refine wpAnyH_take (i := 15) (v := ?_) rfl (by kernel_rfl) (by kernel_rfl) (by kernel_rfl) (fun _ _ _ h => h) (Or.inl ⟨by rfl, ?_⟩) (by assumption) ?_
       rotate_left
       ·(intro w9 hS9; (try simp only [List.getElem_toArray, List.getElem_cons_zero, List.getElem_cons_succ]); go_simp <;> rfl)
       try simp only [Act.put, List.setIfInBounds_toArray, List.set_cons_zero, List.set_cons_succ, List.getElem_toArray, List.getElem_cons_zero, List.getElem_cons_succ]
       refine wpAnyH_take (i := 16) (v := ?_) rfl (by kernel_rfl) (by kernel_rfl) (by kernel_rfl) (fun _ _ _ h => h) (Or.inl ⟨by rfl, ?_⟩) (by assumption) ?_
       rotate_left
       ·(intro w9 hS9; (try simp only [List.getElem_toArray, List.getElem_cons_zero, List.getElem_cons_succ]); go_simp <;> rfl)
       try simp only [Act.put, List.setIfInBounds_toArray, List.set_cons_zero, List.set_cons_succ, List.getElem_toArray, List.getElem_cons_zero, List.getElem_cons_succ]
       refine wpAnyH_ready (rs := [8]) (by kernel_rfl) (by simp) ?_
       refine AllReadyH.cons rfl (fun K hK => ?_) AllReadyH.nil
       try simp only [List.getElem_toArray, List.getElem_cons_zero, List.getElem_cons_succ]
       try go_simp
       go_at_call 39
       refine (HQp.out _).mono ?_
       rintro e V2 ⟨rfl, hb2⟩
       have HB2 := hide (HB0.out.trans (hb2.mono (by have := HB0.out.size; have := Hsz.out; omega)))
       clear hb2
       refine hK.out _ _ (HAr.out V2 HB2.out) (fun hHeld => ?_)
       clear hK K
       try simp only [Act.put, List.setIfInBounds_toArray, List.set_cons_zero, List.set_cons_succ, List.getElem_toArray, List.getElem_cons_zero, List.getElem_cons_succ]
       refine wpAnyH_take (i := 9) (v := ?_) rfl (by kernel_rfl) (by kernel_rfl) (by kernel_rfl) (fun _ _ _ h => h) (Or.inl ⟨by rfl, ?_⟩) (by assumption) ?_
       rotate_left
       ·(intro w9 hS9; (try simp only [List.getElem_toArray, List.getElem_cons_zero, List.getElem_cons_succ]); go_simp <;> rfl)
       try simp only [Act.put, List.setIfInBounds_toArray, List.set_cons_zero, List.set_cons_succ, List.getElem_toArray, List.getElem_cons_zero, List.getElem_cons_succ]
       refine wpAnyH_take (i := 10) (v := ?_) rfl (by kernel_rfl) (by kernel_rfl) (by kernel_rfl) (fun _ _ _ h => h) (Or.inl ⟨by rfl, ?_⟩) (by assumption) ?_
       rotate_left
       ·(intro w9 hS9; (try simp only [List.getElem_toArray, List.getElem_cons_zero, List.getElem_cons_succ]); go_simp <;> rfl)
       try simp only [Act.put, List.setIfInBounds_toArray, List.set_cons_zero, List.set_cons_succ, List.getElem_toArray, List.getElem_cons_zero, List.getElem_cons_succ]
       refine wpAnyH_ready (rs := [17]) (by kernel_rfl) (by simp) ?_
       refine AllReadyH.cons rfl (fun K hK => ?_) AllReadyH.nil
       try simp only [List.getElem_toArray, List.getElem_cons_zero, List.getElem_cons_succ]
       try go_simp
       go_at_call 11
       refine (HLp.out _).mono ?_
       rintro e V3 ⟨rfl, hb2⟩
       rw [hb2]
       clear hb2
       refine hK.out _ _ (HAr.out V2 HB2.out) (fun hHeld => ?_)
       clear hK K
       try simp only [Act.put, List.setIfInBounds_toArray, List.set_cons_zero, List.set_cons_succ, List.getElem_toArray, List.getElem_cons_zero, List.getElem_cons_succ]
       refine wpAnyH_take (i := 18) (v := ?_) rfl (by kernel_rfl) (by kernel_rfl) (by kernel_rfl) (fun _ _ _ h => h) (Or.inl ⟨by rfl, ?_⟩) (by assumption) ?_
       rotate_left
       ·(intro w9 hS9; (try simp only [List.getElem_toArray, List.getElem_cons_zero, List.getElem_cons_succ]); go_simp <;> rfl)
       try simp only [Act.put, List.setIfInBounds_toArray, List.set_cons_zero, List.set_cons_succ, List.getElem_toArray, List.getElem_cons_zero, List.getElem_cons_succ]
       refine wpAnyH_take (i := 19) (v := ?_) rfl (by kernel_rfl) (by kernel_rfl) (by kernel_rfl) (fun _ _ _ h => h) (Or.inl ⟨by rfl, ?_⟩) (by assumption) ?_
       rotate_left
       ·(intro w9 hS9; (try simp only [List.getElem_toArray, List.getElem_cons_zero, List.getElem_cons_succ]); go_simp <;> rfl)
       try simp only [Act.put, List.setIfInBounds_toArray, List.set_cons_zero, List.set_cons_succ, List.getElem_toArray, List.getElem_cons_zero, List.getElem_cons_succ]
       refine wpAnyH_take (i := 20) (v := ?_) rfl (by kernel_rfl) (by kernel_rfl) (by kernel_rfl) (fun _ _ _ h => h) (Or.inl ⟨by rfl, ?_⟩) (by assumption) ?_
       rotate_left
       ·(intro w9 hS9; (try simp only [List.getElem_toArray, List.getElem_cons_zero, List.getElem_cons_succ]); go_simp <;> rfl)
       try simp only [Act.put, List.setIfInBounds_toArray, List.set_cons_zero, List.set_cons_succ, List.getElem_toArray, List.getElem_cons_zero, List.getElem_cons_succ]
       refine wpAnyH_done (by kernel_rfl) ?_ _
       try simp only [Exit.then]
       clear hHeld
       go_wp2_with fail
       go_roundw
       case rel => exact ⟨q + 1, by omega, by rw [HSq.out, ← HF.out], by go_num, HB2⟩
       case measure => simp [intOf]; omega
end Go.Proofs.YtdmdohjdmnmabaaGreatDoor
