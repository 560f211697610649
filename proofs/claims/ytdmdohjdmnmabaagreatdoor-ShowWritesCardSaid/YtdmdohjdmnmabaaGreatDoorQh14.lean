/- The reader of a set's text, by the program. Conditions: those of each theorem. -/
import Derived.Test.YtdmdohjdmnmabaaGreatDoorQh13
namespace Go.Proofs.YtdmdohjdmnmabaaGreatDoor
open Go.RowKit
set_option linter.unusedVariables false

/-- the reader at block r: the text, the place, what is wrong -/
def RAt (w : World) (r : Nat) (s : ByteArray) (at_ : Nat) (bad : Nat) : Prop := Blk w r 254 #[.string s, .int .i64 at_, .int .i64 bad]
theorem RAt.cells {w : World} {r : Nat} {s : ByteArray} {a b : Nat} (h : RAt w r s a b) :
 (w.cell? ⟨r, 0, none⟩ = some (.string s) ∧ w.cell? ⟨r, 1, none⟩ = some (.int .i64 a) ∧ w.cell? ⟨r, 2, none⟩ = some (.int .i64 b)) ∧ w.frozen? ⟨r, 0, none⟩ = false ∧ w.frozen? ⟨r, 1, none⟩ = false ∧ w.frozen? ⟨r, 2, none⟩ = false := Blk.three h
theorem RAt.lt {w : World} {r : Nat} {s : ByteArray} {a b : Nat} (h : RAt w r s a b) : r < w.heap.size := Blk.lt h
theorem RAt.at_ {w : World} {r : Nat} {s : ByteArray} {a b : Nat} (h : RAt w r s a b) (k : Nat) : RAt (w.setCell ⟨r, 1, none⟩ (.int .i64 k)) r s k b := Blk.set_ h 1 _
theorem RAt.bad {w : World} {r : Nat} {s : ByteArray} {a b : Nat} (h : RAt w r s a b) (k : Nat) : RAt (w.setCell ⟨r, 2, none⟩ (.int .i64 k)) r s a k := Blk.set_ h 2 _
theorem RAt.only {w w' : World} {r : Nat} {s : ByteArray} {a b : Nat} {S : Nat → Prop} (h : RAt w r s a b) (k : Only S w w') (hr : ¬ S r) : RAt w' r s a b := Blk.only h k hr
theorem RAt.drewN {w : World} {r : Nat} {s : ByteArray} {a b : Nat} (h : RAt w r s a b) (n : Nat) : RAt (w.drewN n) r s a b := Blk.drewN h n
/-- whether a byte stands at the place -/
def isL (s : ByteArray) (at_ : Nat) (b : UInt8) : Bool := decide (s.data.toList[at_]? = some b)
theorem isL_no {s : ByteArray} {k : Nat} {b : UInt8} (h : s.size ≤ k) : isL s k b = false := by
 unfold isL
 rw [List.getElem?_eq_none (by rw [ba_size]; exact h)]
 rfl
theorem isL_yes {s : ByteArray} {k : Nat} {b : UInt8} (h : k < s.size) : isL s k b = decide (s[k] = b) := by
 unfold isL
 rw [ba_get s k h]
 simp
theorem u8_eq {a b : UInt8} : decide (a = b) = ((a.toNat : Int) == (b.toNat : Int)) := by
 rw [Bool.eq_iff_iff]
 simp
 rw [Int.ofNat_inj]
 exact UInt8.toNat_inj.symm
set_option maxRecDepth 100000 in
set_option maxHeartbeats 1600000 in
theorem is_c {w : World} {r : Nat} {s : ByteArray} {a b : Nat} (c : UInt8) (h : RAt w r s a b) (hs : s.size ≤ 9223372036854775807) (ha : a ≤ s.size) :
 Calls Tryz.prog 215 #[.pointer (some ⟨r, 0, none⟩), .int .u8 c.toNat] w fun e w' => e = .returned (.bool (isL s a c)) ∧ ∃ n, w' = w.drewN n := by
 obtain ⟨⟨g0, g1, g2⟩, _⟩ := h.cells
 by_cases hlt : a < s.size
 ·have HI := hide ((isL_yes (b := c) hlt).trans u8_eq)
  have d1 : decide ((a : Int) < (s.size : Int)) = true := by simp; omega
  have j1 : (0 : Int) ≤ (a : Int) := by omega
  have j2 : (a : Int) < (s.size : Int) := by omega
  clear h
  go_enter Tryz.func215, Tryz.ntmps215
  go_wp2_with fail
  go_quiet (fail)
  go_wp2
  go_ret
  exact ⟨by rw [HI.out]; rfl, _, rfl⟩
 ·have HI := hide (isL_no (b := c) (show s.size ≤ a by omega))
  have d1 : decide ((a : Int) < (s.size : Int)) = false := by simp; omega
  clear h
  go_enter Tryz.func215, Tryz.ntmps215
  go_wp2_with fail
  go_quiet (fail)
  go_wp2
  go_ret
  exact ⟨by rw [HI.out]; rfl, _, rfl⟩
set_option maxRecDepth 100000 in
set_option maxHeartbeats 1600000 in
theorem stop_c {w : World} {r : Nat} {s : ByteArray} {a b : Nat} (h : RAt w r s a b) (hs : s.size ≤ 9223372036854775807) (ha : a ≤ s.size) :
 Calls Tryz.prog 216 #[.pointer (some ⟨r, 0, none⟩)] w fun e w' => e = .returned (.tuple #[]) ∧ RAt w' r s a (if a = s.size then 3 else 2) ∧ Only (· = r) w w' := by
 obtain ⟨⟨g0, g1, g2⟩, f0, f1, f2⟩ := h.cells
 have H := hide h
 clear h
 by_cases hlt : a = s.size
 ·subst hlt
  have d1 : decide ((s.size : Int) ≤ (s.size : Int)) = true := by simp
  rw [if_pos rfl]
  go_enter Tryz.func216, Tryz.ntmps216
  go_wp2_with fail
  go_quiet (fail)
  go_wp2
  go_end0
  exact ⟨rfl, (((H.out.bad 2).drewN _).at_ s.size).bad 3, ((((only_set w r 2 _).drewN _).setCell (Or.inl rfl) _).setCell (Or.inl rfl) _)⟩
 ·have d1 : decide ((s.size : Int) ≤ (a : Int)) = false := by simp; omega
  rw [if_neg hlt]
  go_enter Tryz.func216, Tryz.ntmps216
  go_wp2_with fail
  go_quiet (fail)
  go_wp2
  go_end0
  exact ⟨rfl, (H.out.bad 2).drewN _, (only_set w r 2 _).drewN _⟩
/-- what stands from a place on -/
def suf (s : ByteArray) (a : Nat) : List UInt8 := s.data.toList.drop a
theorem suf_nil {s : ByteArray} {a : Nat} (h : s.size ≤ a) : suf s a = [] := List.drop_eq_nil_of_le (by rw [ba_size]; exact h)
theorem suf_cons {s : ByteArray} {a : Nat} (h : a < s.size) : suf s a = s[a] :: suf s (a + 1) := by
 unfold suf
 rw [List.drop_eq_getElem_cons (by rw [ba_size]; exact h)]
 rfl
theorem suf_drop (s : ByteArray) (a n : Nat) : (suf s a).drop n = suf s (a + n) := by unfold suf; rw [List.drop_drop]
theorem suf_len (s : ByteArray) (a : Nat) : (suf s a).length = s.size - a := by unfold suf; rw [List.length_drop, ba_size]
/-- a sign is read -/
def RetSign (w : World) (r : Nat) (s : ByteArray) (a : Nat) (e : Ending) (w' : World) : Prop :=
 e = .returned (.int .u8 (signS (suf s a)).2.1.toNat) ∧ RAt w' r s (a + (signS (suf s a)).1) (signS (suf s a)).2.2 ∧ Only (· = r) w w'
theorem isq {w : World} {r : Nat} {s : ByteArray} {a b : Nat} (c : UInt8) (n : Int) (v : Bool) (h : RAt w r s a b) (hs : s.size ≤ 9223372036854775807) (ha : a ≤ s.size) (hn : (c.toNat : Int) = n) (hv : isL s a c = v) :
 Calls Tryz.prog 215 #[.pointer (some ⟨r, 0, none⟩), .int .u8 n] w fun e w' => e = .returned (.bool v) ∧ ∃ n, w' = w.drewN n := by
 subst hn hv
 exact is_c c h hs ha
/-- a byte's number stands at the place, or not -/
def IsV (s : ByteArray) (a : Nat) (n : Int) (v : Bool) : Prop := 0 ≤ n ∧ n < 256 ∧ isL s a (UInt8.ofNat n.toNat) = v
theorem isv_q {w : World} {r : Nat} {s : ByteArray} {a b : Nat} {n : Int} {v : Bool} (h : RAt w r s a b) (hs : s.size ≤ 9223372036854775807) (ha : a ≤ s.size) (hv : IsV s a n v) :
 Calls Tryz.prog 215 #[.pointer (some ⟨r, 0, none⟩), .int .u8 n] w fun e w' => e = .returned (.bool v) ∧ ∃ n, w' = w.drewN n := by
 obtain ⟨h0, h1, h2⟩ := hv
 refine isq (UInt8.ofNat n.toNat) n v h hs ha ?_ h2
 rw [UInt8.toNat_ofNat_of_lt' (show n.toNat < UInt8.size from by show n.toNat < 256; omega)]
 omega
set_option maxRecDepth 100000 in
set_option maxHeartbeats 3200000 in
theorem sign_c {w : World} {r : Nat} {s : ByteArray} {a : Nat} (h : RAt w r s a 0) (hs : s.size ≤ 9223372036854775807) (ha : a ≤ s.size) :
 Calls Tryz.prog 220 #[.pointer (some ⟨r, 0, none⟩)] w (RetSign w r s a) := by
 have H := hide h
 obtain ⟨⟨g0, g1, g2⟩, f0, f1, f2⟩ := h.cells
 have HST := hide (fun (w' : World) (a' : Nat) (h' : RAt w' r s a' 0) (ha' : a' ≤ s.size) => stop_c h' hs ha')
 by_cases h0 : a < s.size
 ·by_cases h1 : s[a] = 37
  ·have i37 : isL s a 37 = true := by rw [isL_yes h0, h1]; rfl
   have HQ := hide (isq 37 37 true h hs ha rfl i37)
   have w1 : IntKind.i64.wrap ((a : Int) + 1) = (a : Int) + 1 := IntWalk.i64_in _ (by omega)
   clear i37 h
   by_cases h2 : a + 1 < s.size
   ·have HR := hide (show signS (suf s a) = (2, s[a + 1], 0) by rw [suf_cons h0, suf_cons h2, h1]; rfl)
    have d1 : decide ((s.size : Int) ≤ (a : Int) + 1) = false := by simp; omega
    have w2 : IntKind.i64.wrap ((a : Int) + 1 + 1) = (a : Int) + 2 := by rw [IntWalk.i64_in _ (by omega)]; omega
    have w3 : IntKind.i64.wrap ((a : Int) + 2 - 1) = (a : Int) + 1 := by rw [IntWalk.i64_in _ (by omega)]; omega
    have w4 : ((a : Int) + 1).toNat = a + 1 := by omega
    have j1 : (0 : Int) ≤ (a : Int) + 1 := by omega
    have j2 : (a : Int) + 1 < (s.size : Int) := by omega
    clear h1
    go_enter Tryz.func220, Tryz.ntmps220
    go_wp2_with fail
    refine HQ.out.mono ?_
    rintro e wq ⟨rfl, n, hq⟩
    have HA := hide (show RAt wq r s a 0 by rw [hq]; exact H.out.drewN n)
    have HO := hide (show Only (· = r) w wq by rw [hq]; exact (Only.refl _ w).drewN n)
    clear hq g0 g1 g2 f0 f1 f2
    obtain ⟨⟨g0, g1, g2⟩, f0, f1, f2⟩ := HA.out.cells
    go_wp2_with fail
    go_quiet (fail)
    go_wp2_with fail
    go_quiet (fail)
    go_wp2_with fail
    go_ret
    unfold RetSign
    rw [HR.out]
    exact ⟨rfl, (((HA.out.at_ (a + 1)).drewN _).at_ (a + 2)).drewN _, (((((HO.out).setCell (Or.inl rfl) _).drewN _).setCell (Or.inl rfl) _).drewN _)⟩
   ·have e : a + 1 = s.size := by omega
    have HR := hide (show signS (suf s a) = (1, 0, 3) by rw [suf_cons h0, suf_nil (by omega), h1]; rfl)
    have d1 : decide ((s.size : Int) ≤ (a : Int) + 1) = true := by simp; omega
    have HE := hide e
    clear h1 e
    go_enter Tryz.func220, Tryz.ntmps220
    go_wp2_with fail
    refine HQ.out.mono ?_
    rintro e wq ⟨rfl, n, hq⟩
    have HA := hide (show RAt wq r s a 0 by rw [hq]; exact H.out.drewN n)
    have HO := hide (show Only (· = r) w wq by rw [hq]; exact (Only.refl _ w).drewN n)
    clear hq g0 g1 g2 f0 f1 f2
    obtain ⟨⟨g0, g1, g2⟩, f0, f1, f2⟩ := HA.out.cells
    go_wp2_with fail
    go_quiet (fail)
    go_wp2_with fail
    refine (HST.out _ (a + 1) ((HA.out.at_ (a + 1)).drewN _) (by omega)).mono ?_
    rintro e w9 ⟨rfl, hr9, ho9⟩
    rw [if_pos HE.out] at hr9
    have HR9 := hide hr9
    have HO9 := hide ho9
    clear hr9 ho9
    go_wp2_with fail
    go_ret
    unfold RetSign
    rw [HR.out]
    exact ⟨rfl, HR9.out, ((((HO.out).setCell (Or.inl rfl) _).drewN _)).trans HO9.out⟩
  ·have i37 : isL s a 37 = false := by rw [isL_yes h0]; simp [h1]
   have HQ := hide (isq 37 37 false h hs ha rfl i37)
   have HI := hide (fun (w' : World) (n : Int) (v : Bool) (h' : RAt w' r s a 0) (hv : IsV s a n v) => isv_q h' hs ha hv)
   have d1 : decide ((s.size : Int) ≤ (a : Int)) = false := by simp; omega
   have e93 := isL_yes (b := 93) h0
   have e45 := isL_yes (b := 45) h0
   have HE := hide (show ¬ a = s.size by omega)
   clear i37 h
   by_cases h2 : s[a] = 93
   ·have HR := hide (show signS (suf s a) = (0, 0, 2) by rw [suf_cons h0, h2]; rfl)
    have v93 : IsV s a 93 true := ⟨by decide, by decide, e93.trans (by rw [h2]; rfl)⟩
    clear h1 h2 e93 e45
    go_enter Tryz.func220, Tryz.ntmps220
    go_wp2_with fail
    refine HQ.out.mono ?_
    rintro e wq ⟨rfl, n, hq⟩
    have HA := hide (show RAt wq r s a 0 by rw [hq]; exact H.out.drewN n)
    have HO := hide (show Only (· = r) w wq by rw [hq]; exact (Only.refl _ w).drewN n)
    clear hq g0 g1 g2 f0 f1 f2
    obtain ⟨⟨g0, g1, g2⟩, f0, f1, f2⟩ := HA.out.cells
    go_wp2_with fail
    go_quiet ((go_at_call 215; exact Calls.quiet_of (HI.out _ _ _ (HA.out.drewN _) (by assumption))))
    go_wp2_with fail
    refine (HST.out _ a (HA.out.drewN _) ha).mono ?_
    rintro e w9 ⟨rfl, hr9, ho9⟩
    rw [if_neg HE.out] at hr9
    have HR9 := hide hr9
    have HO9 := hide ho9
    clear hr9 ho9
    go_wp2_with fail
    go_ret
    unfold RetSign
    rw [HR.out]
    exact ⟨rfl, HR9.out, (HO.out.drewN _).trans HO9.out⟩
   ·have v93 : IsV s a 93 false := ⟨by decide, by decide, e93.trans (by simp [h2])⟩
    by_cases h3 : s[a] = 45
    ·have HR := hide (show signS (suf s a) = (0, 0, 2) by rw [suf_cons h0, h3]; rfl)
     have v45 : IsV s a 45 true := ⟨by decide, by decide, e45.trans (by rw [h3]; rfl)⟩
     clear h1 h2 h3 e93 e45
     go_enter Tryz.func220, Tryz.ntmps220
     go_wp2_with fail
     refine HQ.out.mono ?_
     rintro e wq ⟨rfl, n, hq⟩
     have HA := hide (show RAt wq r s a 0 by rw [hq]; exact H.out.drewN n)
     have HO := hide (show Only (· = r) w wq by rw [hq]; exact (Only.refl _ w).drewN n)
     clear hq g0 g1 g2 f0 f1 f2
     obtain ⟨⟨g0, g1, g2⟩, f0, f1, f2⟩ := HA.out.cells
     go_wp2_with fail
     go_quiet ((go_at_call 215; exact Calls.quiet_of (HI.out _ _ _ (HA.out.drewN _) (by assumption))))
     go_wp2_with fail
     refine (HST.out _ a (HA.out.drewN _) ha).mono ?_
     rintro e w9 ⟨rfl, hr9, ho9⟩
     rw [if_neg HE.out] at hr9
     have HR9 := hide hr9
     have HO9 := hide ho9
     clear hr9 ho9
     go_wp2_with fail
     go_ret
     unfold RetSign
     rw [HR.out]
     exact ⟨rfl, HR9.out, (HO.out.drewN _).trans HO9.out⟩
    ·have HR := hide (show signS (suf s a) = (1, s[a], 0) by rw [suf_cons h0]; simp [signS, h1, h2, h3])
     have v45 : IsV s a 45 false := ⟨by decide, by decide, e45.trans (by simp [h3])⟩
     have w1 : IntKind.i64.wrap ((a : Int) + 1) = (a : Int) + 1 := IntWalk.i64_in _ (by omega)
     have w3 : IntKind.i64.wrap ((a : Int) + 1 - 1) = (a : Int) := by rw [IntWalk.i64_in _ (by omega)]; omega
     have w5 : IntKind.i64.wrap (a : Int) = (a : Int) := IntWalk.i64_in _ (by omega)
     have j1 : (0 : Int) ≤ (a : Int) := by omega
     have j2 : (a : Int) < (s.size : Int) := by omega
     clear h1 h2 h3 e93 e45
     go_enter Tryz.func220, Tryz.ntmps220
     go_wp2_with fail
     refine HQ.out.mono ?_
     rintro e wq ⟨rfl, n, hq⟩
     have HA := hide (show RAt wq r s a 0 by rw [hq]; exact H.out.drewN n)
     have HO := hide (show Only (· = r) w wq by rw [hq]; exact (Only.refl _ w).drewN n)
     clear hq g0 g1 g2 f0 f1 f2
     obtain ⟨⟨g0, g1, g2⟩, f0, f1, f2⟩ := HA.out.cells
     go_wp2_with fail
     go_quiet ((go_at_call 215; exact Calls.quiet_of (HI.out _ _ _ (HA.out.drewN _) (by assumption))))
     go_wp2_with fail
     go_quiet (fail)
     go_wp2_with fail
     go_ret
     unfold RetSign
     rw [HR.out]
     exact ⟨rfl, ((HA.out.drewN _).at_ (a + 1)).drewN _, (((HO.out.drewN _).setCell (Or.inl rfl) _).drewN _)⟩
 ·obtain rfl : a = s.size := by omega
  have HQ := hide (isq 37 37 false h hs ha rfl (isL_no (Nat.le_refl _)))
  have HR := hide (show signS (suf s s.size) = (0, 0, 3) by rw [suf_nil (Nat.le_refl _)]; rfl)
  have d1 : decide ((s.size : Int) ≤ (s.size : Int)) = true := by simp
  clear h
  go_enter Tryz.func220, Tryz.ntmps220
  go_wp2_with fail
  refine HQ.out.mono ?_
  rintro e wq ⟨rfl, n, hq⟩
  have HA := hide (show RAt wq r s s.size 0 by rw [hq]; exact H.out.drewN n)
  have HO := hide (show Only (· = r) w wq by rw [hq]; exact (Only.refl _ w).drewN n)
  clear hq g0 g1 g2 f0 f1 f2
  obtain ⟨⟨g0, g1, g2⟩, f0, f1, f2⟩ := HA.out.cells
  go_wp2_with fail
  go_quiet (fail)
  go_wp2_with fail
  refine (HST.out _ s.size (HA.out.drewN _) ha).mono ?_
  rintro e w9 ⟨rfl, hr9, ho9⟩
  rw [if_pos rfl] at hr9
  have HR9 := hide hr9
  have HO9 := hide ho9
  clear hr9 ho9
  go_wp2_with fail
  go_ret
  unfold RetSign
  rw [HR.out]
  exact ⟨rfl, HR9.out, (HO.out.drewN _).trans HO9.out⟩
end Go.Proofs.YtdmdohjdmnmabaaGreatDoor
