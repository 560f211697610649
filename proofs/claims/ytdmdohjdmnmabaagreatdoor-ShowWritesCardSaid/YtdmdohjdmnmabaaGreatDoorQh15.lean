/- Parts of a chain of lemmas: Cls3, Rdr2. Conditions: those of each theorem. -/
import Derived.Test.YtdmdohjdmnmabaaGreatDoorQh13
import Derived.Test.YtdmdohjdmnmabaaGreatDoorQh14
import Derived.Test.YtdmdohjdmnmabaaGreatDoorQh06
namespace Go.Proofs.YtdmdohjdmnmabaaGreatDoor
open Go.RowKit
set_option linter.unusedVariables false

theorem below_dr {B : Nat} {a b : World} (h : Below B a b) : Below B a b.drew := ⟨h.os, h.tape, h.output, h.size, h.block⟩
set_option maxRecDepth 100000 in
set_option maxHeartbeats 1600000 in
theorem or_c (x0 x1 x2 x3 y0 y1 y2 y3 : Int) (w : World) : Calls Tryz.prog 218 #[.agg (setA x0 x1 x2 x3), .agg (setA y0 y1 y2 y3)] w (RetSet w) := by
 unfold setA
 go_enter Tryz.func218, Tryz.ntmps218
 go_wp2
 go_loopw [5, 6] (fun _ i wr => ∃ k : Nat, k ≤ 4 ∧ i = .int .i64 k ∧ Hid (∃ a b c d, Blk wr w.heap.size 197 (setA a b c d)) ∧ Hid (Blk wr (w.heap.size + 1) 197 (setA y0 y1 y2 y3)) ∧ Hid (Blk wr (w.heap.size + 2) 197 (setA 0 0 0 0)) ∧ Hid (Below w.heap.size w wr)) (fun _ i _ => 4 - (intOf i).toNat)
 case atStart => exact ⟨0, by omega, rfl, hide ⟨x0, x1, x2, x3, ((Blk.new _ _ _).alloc _).alloc _⟩, hide ((Blk.new' (by simp)).alloc _), hide (Blk.new' (by simp)), hide (((below_alloc _ _).alloc (by simp) _).alloc (by simp; omega) _)⟩
 case round =>
  obtain ⟨k, hk, rfl, hb, hy, hz, hbel⟩ := hrel
  obtain ⟨a, b, c, d, hb⟩ := hb.out
  have HB := hide hb
  obtain ⟨⟨g0, g1, g2, g3⟩, f0, f1, f2, f3⟩ := hb.four
  clear hb
  by_cases hle : k < 4
  ·obtain ⟨⟨q0, q1, q2, q3⟩, _⟩ := hy.out.four
   have h4 : k = 0 ∨ k = 1 ∨ k = 2 ∨ k = 3 := by omega
   rcases h4 with rfl | rfl | rfl | rfl
   ·go_wp2_with fail
    go_region
    all_goals
     go_wp2_with fail
     go_roundw
     case rel => exact ⟨1, by omega, rfl, hide ⟨_, b, c, d, (HB.out.set_ 0 _).drew⟩, hide (hy.out.far (by simp) _).drew, hide (hz.out.far (by simp) _).drew, hide (below_dr (hbel.out.setCell (Nat.le_refl _) _))⟩
     case measure => simp [intOf]
   ·go_wp2_with fail
    go_region
    all_goals
     go_wp2_with fail
     go_roundw
     case rel => exact ⟨2, by omega, rfl, hide ⟨a, _, c, d, (HB.out.set_ 1 _).drew⟩, hide (hy.out.far (by simp) _).drew, hide (hz.out.far (by simp) _).drew, hide (below_dr (hbel.out.setCell (Nat.le_refl _) _))⟩
     case measure => simp [intOf]
   ·go_wp2_with fail
    go_region
    all_goals
     go_wp2_with fail
     go_roundw
     case rel => exact ⟨3, by omega, rfl, hide ⟨a, b, _, d, (HB.out.set_ 2 _).drew⟩, hide (hy.out.far (by simp) _).drew, hide (hz.out.far (by simp) _).drew, hide (below_dr (hbel.out.setCell (Nat.le_refl _) _))⟩
     case measure => simp [intOf]
   ·go_wp2_with fail
    go_region
    all_goals
     go_wp2_with fail
     go_roundw
     case rel => exact ⟨4, by omega, rfl, hide ⟨a, b, c, _, (HB.out.set_ 3 _).drew⟩, hide (hy.out.far (by simp) _).drew, hide (hz.out.far (by simp) _).drew, hide (below_dr (hbel.out.setCell (Nat.le_refl _) _))⟩
     case measure => simp [intOf]
  ·obtain rfl : k = 4 := by omega
   obtain ⟨⟨z0, z1, z2, z3⟩, e0, e1, e2, e3⟩ := hz.out.four
   go_wp2_with fail
   rw [put4]
   have r2 := hz.out.put [.int .u64 a, .int .u64 b, .int .u64 c, .int .u64 d] rfl
   have r3 := below_put [.int .u64 a, .int .u64 b, .int .u64 c, .int .u64 d] 0 hbel.out (show w.heap.size ≤ w.heap.size + 2 by omega)
   obtain ⟨wz, hz⟩ : ∃ wz, wz = putFrom wr (w.heap.size + 2) 0 [.int .u64 a, .int .u64 b, .int .u64 c, .int .u64 d] := ⟨_, rfl⟩
   rw [← hz] at r2 r3 ⊢
   obtain ⟨⟨g0, g1, g2, g3⟩, _⟩ := r2.four
   refine bodyPost_ret (v := .agg #[.int .u64 a, .int .u64 b, .int .u64 c, .int .u64 d]) (by simp [results, Tryz.results218, go_sem, g0, g1, g2, g3]) rfl ?_
   exact ⟨a, b, c, d, rfl, r3⟩
end Go.Proofs.YtdmdohjdmnmabaaGreatDoor
namespace Go.Proofs.YtdmdohjdmnmabaaGreatDoor
open Go.RowKit
set_option linter.unusedVariables false

theorem part_eq0 {s : ByteArray} {a n e : Nat} {x : UInt8} (hS : signS (suf s a) = (n, x, e)) (he : e ≠ 0) : partS (suf s a) = (n, e) := by
 unfold partS
 rw [hS, if_pos he]
theorem isL_suf {s : ByteArray} {k : Nat} {b : UInt8} (h : isL s k b = true) : suf s k = b :: suf s (k + 1) ∧ k < s.size := by
 by_cases hk : k < s.size
 ·rw [isL_yes hk] at h
  exact ⟨by rw [suf_cons hk, show s[k] = b by simpa using h], hk⟩
 ·rw [isL_no (by omega)] at h
  cases h
theorem isL_not {s : ByteArray} {k : Nat} {b : UInt8} (h : isL s k b = false) (r : List UInt8) : suf s k ≠ b :: r := by
 intro e
 by_cases hk : k < s.size
 ·rw [isL_yes hk] at h
  rw [suf_cons hk] at e
  injection e with e1 _
  simp [e1] at h
 ·rw [suf_nil (by omega)] at e
  cases e
theorem part_eq1 {s : ByteArray} {a n : Nat} {x : UInt8} (hS : signS (suf s a) = (n, x, 0)) (hd : isL s (a + n) 45 = false) : partS (suf s a) = (n, 0) := by
 have h := isL_not hd
 unfold partS
 rw [hS, if_neg (by simp), suf_drop]
 split
 ·rfl
 ·rename_i c r e
  rw [if_neg]
  intro hc
  subst hc
  exact h _ e
theorem part_eq2 {s : ByteArray} {a n m f : Nat} {x y : UInt8} (hS : signS (suf s a) = (n, x, 0)) (hd : isL s (a + n) 45 = true) (hT : signS (suf s (a + n + 1)) = (m, y, f)) :
 partS (suf s a) = if f ≠ 0 then (n + 1 + m, f) else if y.toNat < x.toNat then (n + m, 12) else (n + 1 + m, 0) := by
 have h := (isL_suf hd).1
 unfold partS
 rw [hS, if_neg (by simp), suf_drop, h]
 simp only [hT, if_true]
theorem only_put_new {S : Nat → Prop} {w0 w : World} {g : Nat} (vs : List Value) (i : Nat) (h : Only S w0 w) (hg : w0.heap.size ≤ g) : Only S w0 (putFrom w g i vs) := by
 induction vs generalizing w i with
 | nil => exact h
 | cons v vs ih => exact ih _ (h.setCell (Or.inr hg) v)
/-- a part is read: a set, whichever -/
def RetPart (w : World) (r : Nat) (s : ByteArray) (p : Nat) (b : Nat) (e : Ending) (w' : World) : Prop :=
 ∃ x y z u : Int, e = .returned (.agg (setA x y z u)) ∧ RAt w' r s p b ∧ Only (· = r) w w'
theorem spanq (x y : UInt8) (w : World) : Calls Tryz.prog 210 #[.int .u8 x.toNat, .int .u8 y.toNat] w (RetSet w) := span_c x.toNat y.toNat w (by have := x.toNat_lt; omega) (by have := y.toNat_lt; omega)
theorem signq {w : World} {r : Nat} {s : ByteArray} {a n e : Nat} {x : UInt8} (h : RAt w r s a 0) (hs : s.size ≤ 9223372036854775807) (ha : a ≤ s.size) (hS : signS (suf s a) = (n, x, e)) :
 Calls Tryz.prog 220 #[.pointer (some ⟨r, 0, none⟩)] w fun e' w' => e' = .returned (.int .u8 x.toNat) ∧ RAt w' r s (a + n) e ∧ Only (· = r) w w' := by
 have h1 := sign_c h hs ha
 unfold RetSign at h1
 rw [hS] at h1
 exact h1
set_option maxRecDepth 100000 in
set_option maxHeartbeats 3200000 in
theorem part_c {w : World} {r : Nat} {s : ByteArray} {a : Nat} (h : RAt w r s a 0) (hs : s.size ≤ 9223372036854775807) (ha : a ≤ s.size) :
 Calls Tryz.prog 217 #[.pointer (some ⟨r, 0, none⟩)] w (RetPart w r s (a + (partS (suf s a)).1) (partS (suf s a)).2) := by
 obtain ⟨n, x, e1, hS⟩ : ∃ n x e1, signS (suf s a) = (n, x, e1) := ⟨_, _, _, rfl⟩
 have hn := signS_le (suf s a)
 rw [hS, suf_len] at hn
 have hn' : a + n ≤ s.size := by simp only at hn; omega
 have HC := hide (signq (h.only ((Only.refl (fun _ => False) w).alloc (.cells #[.int .u64 0, .int .u64 0, .int .u64 0, .int .u64 0] 197)) (fun h => h)) hs ha hS)
 have hrl := h.lt
 have HG0 := hide (Blk.new w 197 #[.int .u64 0, .int .u64 0, .int .u64 0, .int .u64 0])
 have HP0 := hide (fun he => part_eq0 (s := s) hS (e := e1) he)
 have HP1 := hide (fun (he : e1 = 0) hd => part_eq1 (s := s) (a := a) (n := n) (x := x) (he ▸ hS) hd)
 have HP2 := hide (fun (he : e1 = 0) hd m f y hT => part_eq2 (s := s) (a := a) (n := n) (x := x) (m := m) (f := f) (y := y) (he ▸ hS) hd hT)
 clear hn hS h
 go_enter Tryz.func217, Tryz.ntmps217
 go_wp2_with fail
 refine HC.out.mono ?_
 rintro e w2 ⟨rfl, hr2, ho2⟩
 have HR := hide hr2
 have HO := hide (show Only (· = r) w w2 from ((Only.refl _ w).alloc _).trans ho2)
 have HG := hide (HG0.out.only ho2 (by omega))
 clear hr2 ho2 HC HG0
 have hrl' : ¬ r = w.heap.size := by omega
 have hrg : ¬ w.heap.size = r := by omega
 obtain ⟨⟨g0, g1, g2⟩, f0, f1, f2⟩ := HR.out.cells
 cases he : ((e1 : Int) == 0) with
 | false =>
  have he' : e1 ≠ 0 := by simpa using he
  have hne : ((e1 : Int) != 0) = true := by simp [bne, he]
  have HPp := hide (HP0.out he')
  clear HP0 HP1 HP2
  go_wp2_with fail
  refine (spanq x x _).mono ?_
  rintro e w8 ⟨q0, q1, q2, q3, rfl, hb8⟩
  unfold setA
  have HR8 := hide (RAt.only (S := fun _ => False) HR.out (Only.of_below hb8 (fun _ => False)) (fun h => h))
  have HO8 := hide (HO.out.trans (Only.of_below hb8 (· = r)))
  have HG8 := hide (HG.out.below hb8)
  clear hb8 g0 g1 g2 f0 f1 f2 HR HO HG
  obtain ⟨⟨k0, k1, k2, k3⟩, l0, l1, l2, l3⟩ := HG8.out.four
  go_wp2_with fail
  rw [put4]
  have r2 := HG8.out.put [.int .u64 q0, .int .u64 q1, .int .u64 q2, .int .u64 q3] rfl
  have r3 := hide (only_put_new [.int .u64 q0, .int .u64 q1, .int .u64 q2, .int .u64 q3] 0 HO8.out (Nat.le_refl w.heap.size))
  have r4 := hide (HR8.out.only (only_put [.int .u64 q0, .int .u64 q1, .int .u64 q2, .int .u64 q3] 0 w8 w.heap.size) hrl')
  clear k0 k1 k2 k3 l0 l1 l2 l3
  obtain ⟨wz, hz⟩ : ∃ wz, wz = putFrom w8 w.heap.size 0 [.int .u64 q0, .int .u64 q1, .int .u64 q2, .int .u64 q3] := ⟨_, rfl⟩
  rw [← hz] at r2 r3 r4 ⊢
  obtain ⟨⟨k0, k1, k2, k3⟩, _⟩ := r2.four
  refine bodyPost_ret (v := .agg #[.int .u64 q0, .int .u64 q1, .int .u64 q2, .int .u64 q3]) (by simp [results, Tryz.results217, go_sem, k0, k1, k2, k3]) rfl ?_
  rw [HPp.out]
  exact ⟨q0, q1, q2, q3, rfl, r4.out, r3.out⟩
 | true =>
  have he' : e1 = 0 := by simpa using he
  have hne : ((e1 : Int) != 0) = false := by simp [bne, he]
  cases hd : isL s (a + n) 45 with
  | false =>
   have HQ := hide (fun (w' : World) (b : Nat) (h : RAt w' r s (a + n) b) => isq 45 45 false h hs hn' rfl hd)
   have HPp := hide (HP1.out he' hd)
   clear HP0 HP1 HP2 hd he hn'
   subst he'
   go_wp2_with fail
   refine (HQ.out _ _ HR.out).mono ?_
   rintro e w3 ⟨rfl, m0, hq⟩
   replace HR := hide (show RAt w3 r s (a + n) 0 by rw [hq]; exact HR.out.drewN _)
   replace HO := hide (show Only (· = r) w w3 by rw [hq]; exact HO.out.drewN _)
   replace HG := hide (show Blk w3 w.heap.size 197 #[.int .u64 0, .int .u64 0, .int .u64 0, .int .u64 0] by rw [hq]; exact HG.out.drewN _)
   clear hq g0 g1 g2 f0 f1 f2
   obtain ⟨⟨g0, g1, g2⟩, f0, f1, f2⟩ := HR.out.cells
   go_wp2_with fail
   refine (spanq x x _).mono ?_
   rintro e w8 ⟨q0, q1, q2, q3, rfl, hb8⟩
   unfold setA
   have HR8 := hide (RAt.only (S := fun _ => False) HR.out (Only.of_below hb8 (fun _ => False)) (fun h => h))
   have HO8 := hide (HO.out.trans (Only.of_below hb8 (· = r)))
   have HG8 := hide (HG.out.below hb8)
   clear hb8 g0 g1 g2 f0 f1 f2 HR HO HG
   obtain ⟨⟨k0, k1, k2, k3⟩, l0, l1, l2, l3⟩ := HG8.out.four
   go_wp2_with fail
   rw [put4]
   have r2 := HG8.out.put [.int .u64 q0, .int .u64 q1, .int .u64 q2, .int .u64 q3] rfl
   have r3 := hide (only_put_new [.int .u64 q0, .int .u64 q1, .int .u64 q2, .int .u64 q3] 0 HO8.out (Nat.le_refl w.heap.size))
   have r4 := hide (HR8.out.only (only_put [.int .u64 q0, .int .u64 q1, .int .u64 q2, .int .u64 q3] 0 w8 w.heap.size) hrl')
   clear k0 k1 k2 k3 l0 l1 l2 l3
   obtain ⟨wz, hz⟩ : ∃ wz, wz = putFrom w8 w.heap.size 0 [.int .u64 q0, .int .u64 q1, .int .u64 q2, .int .u64 q3] := ⟨_, rfl⟩
   rw [← hz] at r2 r3 r4 ⊢
   obtain ⟨⟨k0, k1, k2, k3⟩, _⟩ := r2.four
   refine bodyPost_ret (v := .agg #[.int .u64 q0, .int .u64 q1, .int .u64 q2, .int .u64 q3]) (by simp [results, Tryz.results217, go_sem, k0, k1, k2, k3]) rfl ?_
   rw [HPp.out]
   exact ⟨q0, q1, q2, q3, rfl, r4.out, r3.out⟩
  | true =>
   have HQ := hide (fun (w' : World) (b : Nat) (h : RAt w' r s (a + n) b) => isq 45 45 true h hs hn' rfl hd)
   have hlt := (isL_suf hd).2
   obtain ⟨m, y, e2, hT⟩ : ∃ m y e2, signS (suf s (a + n + 1)) = (m, y, e2) := ⟨_, _, _, rfl⟩
   have hm := signS_le (suf s (a + n + 1))
   rw [hT, suf_len] at hm
   have hm' : a + n + 1 + m ≤ s.size := by simp only at hm; omega
   have HS2 := hide (fun (w' : World) (h : RAt w' r s (a + n + 1) 0) => signq h hs (by omega) hT)
   have HPp := hide (HP2.out he' hd m e2 y hT)
   have v1 : IntKind.i64.wrap (((a + n : Nat) : Int) + 1) = ((a + n + 1 : Nat) : Int) := by rw [IntWalk.i64_in _ (by omega)]; omega
   have v2 : IntKind.i64.wrap ((a : Int) + (n : Int) + 1 + (m : Int) - 1) = (a : Int) + (n : Int) + (m : Int) := by rw [IntWalk.i64_in _ (by omega)]; omega
   clear HP0 HP1 HP2 hd he hm hT
   subst he'
   go_wp2_with fail
   refine (HQ.out _ _ HR.out).mono ?_
   rintro e w3 ⟨rfl, m0, hq⟩
   replace HR := hide (show RAt w3 r s (a + n) 0 by rw [hq]; exact HR.out.drewN _)
   replace HO := hide (show Only (· = r) w w3 by rw [hq]; exact HO.out.drewN _)
   replace HG := hide (show Blk w3 w.heap.size 197 #[.int .u64 0, .int .u64 0, .int .u64 0, .int .u64 0] by rw [hq]; exact HG.out.drewN _)
   clear hq g0 g1 g2 f0 f1 f2
   obtain ⟨⟨g0, g1, g2⟩, f0, f1, f2⟩ := HR.out.cells
   go_wp2_with fail
   refine (HS2.out _ (HR.out.at_ (a + n + 1))).mono ?_
   rintro e w4 ⟨rfl, hr4, ho4⟩
   replace HO := hide ((HO.out.setCell (Or.inl rfl) _).trans ho4)
   replace HG := hide ((HG.out.only (Only.refl (· = r) w3 |>.setCell (Or.inl rfl) _) hrg).only ho4 hrg)
   replace HR := hide hr4
   clear hr4 ho4 g0 g1 g2 f0 f1 f2 v1
   obtain ⟨⟨g0, g1, g2⟩, f0, f1, f2⟩ := HR.out.cells
   cases he2 : ((e2 : Int) == 0) with
   | false =>
    have he2' : e2 ≠ 0 := by simpa using he2
    replace HPp := hide (HPp.out.trans (if_pos he2'))
    go_wp2_with fail
    refine (spanq x y _).mono ?_
    rintro e w8 ⟨q0, q1, q2, q3, rfl, hb8⟩
    unfold setA
    have HR8 := hide (RAt.only (S := fun _ => False) HR.out (Only.of_below hb8 (fun _ => False)) (fun h => h))
    have HO8 := hide (HO.out.trans (Only.of_below hb8 (· = r)))
    have HG8 := hide (HG.out.below hb8)
    clear hb8 g0 g1 g2 f0 f1 f2 HR HO HG
    obtain ⟨⟨k0, k1, k2, k3⟩, l0, l1, l2, l3⟩ := HG8.out.four
    go_wp2_with fail
    rw [put4]
    have r2 := HG8.out.put [.int .u64 q0, .int .u64 q1, .int .u64 q2, .int .u64 q3] rfl
    have r3 := hide (only_put_new [.int .u64 q0, .int .u64 q1, .int .u64 q2, .int .u64 q3] 0 HO8.out (Nat.le_refl w.heap.size))
    have r4 := hide (HR8.out.only (only_put [.int .u64 q0, .int .u64 q1, .int .u64 q2, .int .u64 q3] 0 w8 w.heap.size) hrl')
    clear k0 k1 k2 k3 l0 l1 l2 l3
    obtain ⟨wz, hz⟩ : ∃ wz, wz = putFrom w8 w.heap.size 0 [.int .u64 q0, .int .u64 q1, .int .u64 q2, .int .u64 q3] := ⟨_, rfl⟩
    rw [← hz] at r2 r3 r4 ⊢
    obtain ⟨⟨k0, k1, k2, k3⟩, _⟩ := r2.four
    refine bodyPost_ret (v := .agg #[.int .u64 q0, .int .u64 q1, .int .u64 q2, .int .u64 q3]) (by simp [results, Tryz.results217, go_sem, k0, k1, k2, k3]) rfl ?_
    rw [HPp.out]
    exact ⟨q0, q1, q2, q3, rfl, (show a + n + 1 + m = a + (n + 1 + m) by omega) ▸ r4.out, r3.out⟩
   | true =>
    have he2' : e2 = 0 := by simpa using he2
    replace HPp := hide (HPp.out.trans (if_neg (by simpa using he2')))
    subst he2'
    by_cases hyx : y.toNat < x.toNat
    ·replace HPp := hide (HPp.out.trans (if_pos hyx))
     have hyb : decide (y.toNat < x.toNat) = true := by simp [hyx]
     go_wp2_with fail
     have HR5 := hide ((HR.out.at_ (a + n + m)).bad 12)
     have HO5 := hide ((HO.out.setCell (p := ⟨r, 1, none⟩) (Or.inl rfl) (.int .i64 (a + n + m : Nat))).setCell (p := ⟨r, 2, none⟩) (Or.inl rfl) (.int .i64 12))
     have HG5 := hide (HG.out.only ((Only.refl (· = r) w4 |>.setCell (p := ⟨r, 1, none⟩) (Or.inl rfl) (.int .i64 (a + n + m : Nat))).setCell (p := ⟨r, 2, none⟩) (Or.inl rfl) (.int .i64 12)) hrg)
     clear HR HO HG
     have HR := hide HR5.out
     have HO := hide HO5.out
     have HG := hide HG5.out
     clear HR5 HO5 HG5
     refine (spanq x y _).mono ?_
     rintro e w8 ⟨q0, q1, q2, q3, rfl, hb8⟩
     unfold setA
     have HR8 := hide (RAt.only (S := fun _ => False) HR.out (Only.of_below hb8 (fun _ => False)) (fun h => h))
     have HO8 := hide (HO.out.trans (Only.of_below hb8 (· = r)))
     have HG8 := hide (HG.out.below hb8)
     clear hb8 g0 g1 g2 f0 f1 f2 HR HO HG
     obtain ⟨⟨k0, k1, k2, k3⟩, l0, l1, l2, l3⟩ := HG8.out.four
     go_wp2_with fail
     rw [put4]
     have r2 := HG8.out.put [.int .u64 q0, .int .u64 q1, .int .u64 q2, .int .u64 q3] rfl
     have r3 := hide (only_put_new [.int .u64 q0, .int .u64 q1, .int .u64 q2, .int .u64 q3] 0 HO8.out (Nat.le_refl w.heap.size))
     have r4 := hide (HR8.out.only (only_put [.int .u64 q0, .int .u64 q1, .int .u64 q2, .int .u64 q3] 0 w8 w.heap.size) hrl')
     clear k0 k1 k2 k3 l0 l1 l2 l3
     obtain ⟨wz, hz⟩ : ∃ wz, wz = putFrom w8 w.heap.size 0 [.int .u64 q0, .int .u64 q1, .int .u64 q2, .int .u64 q3] := ⟨_, rfl⟩
     rw [← hz] at r2 r3 r4 ⊢
     obtain ⟨⟨k0, k1, k2, k3⟩, _⟩ := r2.four
     refine bodyPost_ret (v := .agg #[.int .u64 q0, .int .u64 q1, .int .u64 q2, .int .u64 q3]) (by simp [results, Tryz.results217, go_sem, k0, k1, k2, k3]) rfl ?_
     rw [HPp.out]
     exact ⟨q0, q1, q2, q3, rfl, (show a + n + m = a + (n + m) by omega) ▸ r4.out, r3.out⟩
    ·replace HPp := hide (HPp.out.trans (if_neg hyx))
     have hyb : decide (y.toNat < x.toNat) = false := by simp [hyx]
     go_wp2_with fail
     refine (spanq x y _).mono ?_
     rintro e w8 ⟨q0, q1, q2, q3, rfl, hb8⟩
     unfold setA
     have HR8 := hide (RAt.only (S := fun _ => False) HR.out (Only.of_below hb8 (fun _ => False)) (fun h => h))
     have HO8 := hide (HO.out.trans (Only.of_below hb8 (· = r)))
     have HG8 := hide (HG.out.below hb8)
     clear hb8 g0 g1 g2 f0 f1 f2 HR HO HG
     obtain ⟨⟨k0, k1, k2, k3⟩, l0, l1, l2, l3⟩ := HG8.out.four
     go_wp2_with fail
     rw [put4]
     have r2 := HG8.out.put [.int .u64 q0, .int .u64 q1, .int .u64 q2, .int .u64 q3] rfl
     have r3 := hide (only_put_new [.int .u64 q0, .int .u64 q1, .int .u64 q2, .int .u64 q3] 0 HO8.out (Nat.le_refl w.heap.size))
     have r4 := hide (HR8.out.only (only_put [.int .u64 q0, .int .u64 q1, .int .u64 q2, .int .u64 q3] 0 w8 w.heap.size) hrl')
     clear k0 k1 k2 k3 l0 l1 l2 l3
     obtain ⟨wz, hz⟩ : ∃ wz, wz = putFrom w8 w.heap.size 0 [.int .u64 q0, .int .u64 q1, .int .u64 q2, .int .u64 q3] := ⟨_, rfl⟩
     rw [← hz] at r2 r3 r4 ⊢
     obtain ⟨⟨k0, k1, k2, k3⟩, _⟩ := r2.four
     refine bodyPost_ret (v := .agg #[.int .u64 q0, .int .u64 q1, .int .u64 q2, .int .u64 q3]) (by simp [results, Tryz.results217, go_sem, k0, k1, k2, k3]) rfl ?_
     rw [HPp.out]
     exact ⟨q0, q1, q2, q3, rfl, (show a + n + 1 + m = a + (n + 1 + m) by omega) ▸ r4.out, r3.out⟩
end Go.Proofs.YtdmdohjdmnmabaaGreatDoor
