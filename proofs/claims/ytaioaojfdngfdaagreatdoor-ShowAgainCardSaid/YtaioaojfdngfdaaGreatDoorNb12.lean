/- Parts of a chain of lemmas: Read, Item, Parse, Good. Conditions: those of each theorem. -/
import Derived.Test.YtaioaojfdngfdaaGreatDoorNb11
import Derived.BigRegion
import Derived.Test.YtaioaojfdngfdaaGreatDoorNb04
import Derived.Test.YtaioaojfdngfdaaGreatDoorNb02
set_option linter.unusedVariables false
set_option linter.unusedSimpArgs false
namespace Go.Proofs.YtaioaojfdngfdaaGreatDoor
open Go.RowKit
theorem suf_all (s : ByteArray) : suf s 0 = s.data.toList := rfl
set_option maxRecDepth 100000 in
set_option maxHeartbeats 6400000 in
theorem Read_c (s : ByteArray) (w : World) (hs : s.size ≤ 9223372036854775807) : Calls Tryz.prog 234 #[.string s] w fun e w' =>
 ∃ a b c d : Int, e = .returned (.tuple #[.agg (setA a b c d), .int .i64 (readS s.data.toList).1, .int .i64 (readS s.data.toList).2]) ∧ Only NoBlk w w' := by
 obtain ⟨at_, bad, hrd⟩ : ∃ at_ bad, readS s.data.toList = (at_, bad) := ⟨_, _, rfl⟩
 obtain ⟨W, hW⟩ : ∃ W, W = (w.alloc (.cells #[.int .u64 0, .int .u64 0, .int .u64 0, .int .u64 0] 249)).alloc (.cells #[.string s, .int .i64 0, .int .i64 0] 320) := ⟨_, rfl⟩
 have HW := hide hW
 have HR := hide (show RAt W (w.heap.size + 1) s 0 0 by rw [hW]; exact Blk.new' (by simp))
 have HB := hide (show Only NoBlk w W by rw [hW]; exact ((Only.refl _ w).alloc _).alloc _)
 have HG := hide (show Blk W w.heap.size 249 #[.int .u64 0, .int .u64 0, .int .u64 0, .int .u64 0] by rw [hW]; exact (Blk.new w 249 _).alloc _)
 have HC := hide (show Calls Tryz.prog 246 #[.pointer (some ⟨w.heap.size + 1, 0, none⟩)] W (RetPart W (w.heap.size + 1) s at_ bad) from by
  have h := whole_c HR.out hs
  rw [suf_all, hrd] at h
  exact h)
 rw [hrd]
 clear hW hrd
 go_enter Tryz.func234, Tryz.ntmps234
 go_upto_region 2 with fail
 change Code.wp _ _ _ _ ((w.alloc (.cells #[.int .u64 0, .int .u64 0, .int .u64 0, .int .u64 0] 249)).alloc (.cells #[.string s, .int .i64 0, .int .i64 0] 320))
 rw [← HW.out]
 go_wp2_with fail
 refine HC.out.mono ?_
 rintro e w2 ⟨q0, q1, q2, q3, rfl, hr2, ho2⟩
 unfold setA
 have HG3 := hide ((HG.out.only ho2 (by omega)).alloc (.cells #[.int .u64 q0, .int .u64 q1, .int .u64 q2, .int .u64 q3] 249))
 have HB3 := hide ((HB.out.fresh ho2 (fun i _ h => Or.inr (by omega))).alloc (.cells #[.int .u64 q0, .int .u64 q1, .int .u64 q2, .int .u64 q3] 249))
 have HR3 := hide (Blk.alloc hr2 (.cells #[.int .u64 q0, .int .u64 q1, .int .u64 q2, .int .u64 q3] 249))
 have HS3 := hide (Blk.new w2 249 #[.int .u64 q0, .int .u64 q1, .int .u64 q2, .int .u64 q3])
 have hn1 : ¬ w2.heap.size = w.heap.size := by have := ho2.size; have := HR.out.lt; omega
 have hn2 : ¬ w2.heap.size = w.heap.size + 1 := by have := ho2.size; have := HR.out.lt; omega
 clear ho2 hr2 HC HG HB HR
 go_upto_region 3 with fail
 change Code.wp _ _ _ _ (w2.alloc (.cells #[.int .u64 q0, .int .u64 q1, .int .u64 q2, .int .u64 q3] 249))
 obtain ⟨w3, hw3⟩ : ∃ w3, w3 = w2.alloc (.cells #[.int .u64 q0, .int .u64 q1, .int .u64 q2, .int .u64 q3] 249) := ⟨_, rfl⟩
 rw [← hw3] at HG3 HB3 HR3 HS3 ⊢
 clear hw3
 have hn3 : ¬ w.heap.size = w2.heap.size := fun h => hn1 h.symm
 have hn4 : ¬ w.heap.size + 1 = w2.heap.size := fun h => hn2 h.symm
 obtain ⟨⟨g0, g1, g2⟩, f0, f1, f2⟩ := RAt.cells HR3.out
 obtain ⟨⟨k0, k1, k2, k3⟩, l0, l1, l2, l3⟩ := HG3.out.four
 obtain ⟨⟨j0, j1, j2, j3⟩, i0, i1, i2, i3⟩ := HS3.out.four
 by_cases hb : bad = 0
 ·subst hb
  go_upto_region 4 with fail
  go_region
  clear k0 k1 k2 k3 l0 l1 l2 l3 j0 j1 j2 j3 i0 i1 i2 i3
  go_wp2_with fail
  rw [put4]
  have r2 := (HG3.out.put [.int .u64 q0, .int .u64 q1, .int .u64 q2, .int .u64 q3] rfl).drew
  have r3 := hide (only_put_new [.int .u64 q0, .int .u64 q1, .int .u64 q2, .int .u64 q3] 0 HB3.out (Nat.le_refl w.heap.size)).drew
  obtain ⟨wz, hz⟩ : ∃ wz, wz = (putFrom w3 w.heap.size 0 [.int .u64 q0, .int .u64 q1, .int .u64 q2, .int .u64 q3]).drew := ⟨_, rfl⟩
  rw [← hz] at r2 r3 ⊢
  clear hz
  obtain ⟨⟨k0, k1, k2, k3⟩, _⟩ := r2.four
  refine bodyPost_ret (v := .tuple #[.agg #[.int .u64 q0, .int .u64 q1, .int .u64 q2, .int .u64 q3], .int .i64 at_, .int .i64 (0 : Nat)]) (by simp [results, Tryz.results234, go_sem, k0, k1, k2, k3]) rfl ?_
  exact ⟨q0, q1, q2, q3, rfl, r3.out⟩
 ·have hbe : ((bad : Int) == 0) = false := by simpa using hb
  go_upto_region 5 with fail
  go_region
  clear k0 k1 k2 k3 l0 l1 l2 l3 j0 j1 j2 j3 i0 i1 i2 i3
  go_wp2_with fail
  rw [put4]
  have r2 := (HG3.out.put [.int .u64 0, .int .u64 0, .int .u64 0, .int .u64 0] rfl).drew
  have r3 := hide (only_put_new [.int .u64 0, .int .u64 0, .int .u64 0, .int .u64 0] 0 HB3.out (Nat.le_refl w.heap.size)).drew
  obtain ⟨wz, hz⟩ : ∃ wz, wz = (putFrom w3 w.heap.size 0 [.int .u64 0, .int .u64 0, .int .u64 0, .int .u64 0]).drew := ⟨_, rfl⟩
  rw [← hz] at r2 r3 ⊢
  clear hz
  obtain ⟨⟨k0, k1, k2, k3⟩, _⟩ := r2.four
  refine bodyPost_ret (v := .tuple #[.agg #[.int .u64 0, .int .u64 0, .int .u64 0, .int .u64 0], .int .i64 at_, .int .i64 bad]) (by simp [results, Tryz.results234, go_sem, k0, k1, k2, k3]) rfl ?_
  exact ⟨0, 0, 0, 0, rfl, r3.out⟩
/-- an item: whether it is a run, its set in four words -/
structure ItM where
 run : Bool
 a : Int
 b : Int
 c : Int
 d : Int
def encIt (x : ItM) : List Value := [.bool x.run, .int .u64 x.a, .int .u64 x.b, .int .u64 x.c, .int .u64 x.d]
def ItOk (x : ItM) : Prop := x.run = true → x.a = 0 ∧ x.b = 0 ∧ x.c = 0 ∧ x.d = 0
def RetItem (l : List UInt8) (w : World) (e : Ending) (w' : World) : Prop :=
 ∃ x : ItM, e = .returned (.tuple #[.agg (encIt x).toArray, .int .i64 (itemS l).2.1, .int .i64 (itemS l).2.2]) ∧ x.run = (itemS l).1 ∧ ItOk x ∧ Only NoBlk w w'
theorem item_run {r : List UInt8} : itemS (42 :: r) = (true, 1, 0) := rfl
theorem item_any {r : List UInt8} : itemS (63 :: r) = (false, 1, 0) := rfl
theorem item_set {r : List UInt8} : itemS (91 :: r) = (false, readS (91 :: r)) := rfl
theorem item_shut {r : List UInt8} : itemS (93 :: r) = (false, 0, 2) := rfl
theorem item_end : itemS [37] = (false, 1, 3) := rfl
theorem item_quote {b : UInt8} {r : List UInt8} : itemS (37 :: b :: r) = (false, 2, 0) := rfl
theorem item_byte {c : UInt8} {r : List UInt8} (h1 : c ≠ 42) (h2 : c ≠ 63) (h3 : c ≠ 91) (h4 : c ≠ 93) (h5 : c ≠ 37) : itemS (c :: r) = (false, 1, 0) := by
 simp [itemS, h1, h2, h3, h4, h5]
theorem u8_ne {a b : UInt8} (h : a ≠ b) : ((a.toNat : Int) == (b.toNat : Int)) = false := by
 rw [← u8_eq]; simp [h]
theorem u8_neN {a b : UInt8} (h : a ≠ b) : (a.toNat == b.toNat) = false := by
 simp only [beq_eq_false_iff_ne, ne_eq]
 intro e
 exact h (UInt8.toNat_inj.1 e)
set_option maxRecDepth 100000 in
set_option maxHeartbeats 6400000 in
theorem item_c (s : ByteArray) (w : World) (h0 : 0 < s.size) (hs : s.size ≤ 9223372036854775807) : Calls Tryz.prog 223 #[.string s] w (RetItem s.data.toList w) := by
 obtain ⟨L, hL⟩ : ∃ L, L = s.data.toList := ⟨_, rfl⟩
 have hcons : L = s[0] :: suf s 1 := by rw [hL, ← suf_all]; exact suf_cons h0
 have HRD := hide (fun (w' : World) => Read_c s w' hs)
 rw [← hL] at HRD ⊢
 have HL := hide hL
 have HG := hide (Blk.new w 253 #[.bool false, .int .u64 0, .int .u64 0, .int .u64 0, .int .u64 0])
 have HO := hide (show Only NoBlk w (w.alloc (.cells #[.bool false, .int .u64 0, .int .u64 0, .int .u64 0, .int .u64 0] 253)) from (Only.refl _ w).alloc _)
 have j1 : (0 : Int) < (s.size : Int) := by omega
 have j2 : (0 : Int) ≤ (0 : Int) := by omega
 clear hL
 obtain ⟨c, hc⟩ : ∃ c, c = s[0] := ⟨_, rfl⟩
 have hcn : (s[0]).toNat = c.toNat := by rw [hc]
 rw [← hc] at hcons
 have HC := hide hcons
 clear hcons
 by_cases h42 : c = 42
 ·have HI := hide (show itemS L = (true, 1, 0) by rw [HC.out, h42]; rfl)
  have b42 : ((c.toNat : Int) == 42) = true := by rw [h42]; rfl
  clear h42 hc
  go_enter Tryz.func223, Tryz.ntmps223
  go_wp2_with fail
  have r2 := Blk.new w 253 #[.bool true, .int .u64 0, .int .u64 0, .int .u64 0, .int .u64 0]
  have r3 := hide (show Only NoBlk w (w.alloc (.cells #[.bool true, .int .u64 0, .int .u64 0, .int .u64 0, .int .u64 0] 253)) from (Only.refl _ w).alloc _)
  obtain ⟨wz, hz⟩ : ∃ wz, wz = w.alloc (.cells #[.bool true, .int .u64 0, .int .u64 0, .int .u64 0, .int .u64 0] 253) := ⟨_, rfl⟩
  rw [← hz] at r2 r3 ⊢
  clear hz
  obtain ⟨⟨k0, k1, k2, k3, k4⟩, _⟩ := r2.five
  refine bodyPost_ret (v := .tuple #[.agg #[.bool true, .int .u64 0, .int .u64 0, .int .u64 0, .int .u64 0], .int .i64 (1 : Nat), .int .i64 (0 : Nat)]) (by simp [results, Tryz.results223, go_sem, k0, k1, k2, k3, k4]) rfl ?_
  refine ⟨⟨true, 0, 0, 0, 0⟩, by rw [HI.out]; rfl, by rw [HI.out], fun _ => ⟨rfl, rfl, rfl, rfl⟩, r3.out⟩
 have b42 : ((c.toNat : Int) == 42) = false := u8_ne (b := 42) h42
 by_cases h63 : c = 63
 ·have HI := hide (show itemS L = (false, 1, 0) by rw [HC.out, h63]; rfl)
  have b63 : ((c.toNat : Int) == 63) = true := by rw [h63]; rfl
  clear h42 h63 hc
  go_enter Tryz.func223, Tryz.ntmps223
  go_wp2_with fail
  refine (spanX_c 0 255 _ (by omega) (by omega)).mono ?_
  rintro e w4 ⟨q0, q1, q2, q3, rfl, hb⟩
  have hbo := Only.of_below hb NoBlk
  clear hb
  unfold setA
  replace HG := hide (HG.out.only hbo (fun h => h))
  replace HO := hide (HO.out.trans hbo)
  obtain ⟨⟨g0, g1, g2, g3, g4⟩, f0, f1, f2, f3, f4⟩ := HG.out.five
  clear hbo
  go_wp2_with fail
  clear g0 g1 g2 g3 g4 f0 f1 f2 f3 f4
  rw [put5]
  have r2 := HG.out.put [.bool false, .int .u64 q0, .int .u64 q1, .int .u64 q2, .int .u64 q3] rfl
  have r3 := hide (only_put_new [.bool false, .int .u64 q0, .int .u64 q1, .int .u64 q2, .int .u64 q3] 0 HO.out (Nat.le_refl w.heap.size))
  obtain ⟨wz, hz⟩ : ∃ wz, wz = putFrom w4 w.heap.size 0 [.bool false, .int .u64 q0, .int .u64 q1, .int .u64 q2, .int .u64 q3] := ⟨_, rfl⟩
  rw [← hz] at r2 r3 ⊢
  clear hz
  obtain ⟨⟨k0, k1, k2, k3, k4⟩, _⟩ := r2.five
  refine bodyPost_ret (v := .tuple #[.agg #[.bool false, .int .u64 q0, .int .u64 q1, .int .u64 q2, .int .u64 q3], .int .i64 (1 : Nat), .int .i64 (0 : Nat)]) (by simp [results, Tryz.results223, go_sem, k0, k1, k2, k3, k4]) rfl ?_
  refine ⟨⟨false, q0, q1, q2, q3⟩, by rw [HI.out]; rfl, by rw [HI.out], (by intro h; cases h), r3.out⟩
 have b63 : ((c.toNat : Int) == 63) = false := u8_ne (b := 63) h63
 by_cases h91 : c = 91
 ·have HI := hide (show itemS L = (false, readS L) by rw [HC.out, h91]; rfl)
  have b91 : ((c.toNat : Int) == 91) = true := by rw [h91]; rfl
  obtain ⟨at_, bad, hrd⟩ : ∃ at_ bad, readS L = (at_, bad) := ⟨_, _, rfl⟩
  rw [hrd] at HRD HI
  clear h42 h63 h91 hc hrd
  go_enter Tryz.func223, Tryz.ntmps223
  go_wp2_with fail
  refine (HRD.out _).mono ?_
  rintro e w4 ⟨q0, q1, q2, q3, rfl, hbo⟩
  unfold setA
  replace HG := hide ((HG.out.only hbo (fun h => h)).alloc (.cells #[.int .u64 q0, .int .u64 q1, .int .u64 q2, .int .u64 q3] 249))
  replace HO := hide ((HO.out.trans hbo).alloc (.cells #[.int .u64 q0, .int .u64 q1, .int .u64 q2, .int .u64 q3] 249))
  have HS := hide (Blk.new w4 249 #[.int .u64 q0, .int .u64 q1, .int .u64 q2, .int .u64 q3])
  go_upto_region 8 with fail
  change Code.wp _ _ _ _ (w4.alloc (.cells #[.int .u64 q0, .int .u64 q1, .int .u64 q2, .int .u64 q3] 249))
  obtain ⟨w5, hw5⟩ : ∃ w5, w5 = w4.alloc (.cells #[.int .u64 q0, .int .u64 q1, .int .u64 q2, .int .u64 q3] 249) := ⟨_, rfl⟩
  rw [← hw5] at HG HO HS ⊢
  clear hw5
  obtain ⟨⟨g0, g1, g2, g3, g4⟩, f0, f1, f2, f3, f4⟩ := HG.out.five
  obtain ⟨⟨j0, j1, j2, j3⟩, _⟩ := HS.out.four
  go_wp2_with fail
  clear g0 g1 g2 g3 g4 f0 f1 f2 f3 f4 j0 j1 j2 j3
  rw [put5]
  have r2 := HG.out.put [.bool false, .int .u64 q0, .int .u64 q1, .int .u64 q2, .int .u64 q3] rfl
  have r3 := hide (only_put_new [.bool false, .int .u64 q0, .int .u64 q1, .int .u64 q2, .int .u64 q3] 0 HO.out (Nat.le_refl w.heap.size))
  obtain ⟨wz, hz⟩ : ∃ wz, wz = putFrom w5 w.heap.size 0 [.bool false, .int .u64 q0, .int .u64 q1, .int .u64 q2, .int .u64 q3] := ⟨_, rfl⟩
  rw [← hz] at r2 r3 ⊢
  clear hz
  obtain ⟨⟨k0, k1, k2, k3, k4⟩, _⟩ := r2.five
  refine bodyPost_ret (v := .tuple #[.agg #[.bool false, .int .u64 q0, .int .u64 q1, .int .u64 q2, .int .u64 q3], .int .i64 at_, .int .i64 bad]) (by simp [results, Tryz.results223, go_sem, k0, k1, k2, k3, k4]) rfl ?_
  refine ⟨⟨false, q0, q1, q2, q3⟩, by rw [HI.out]; rfl, by rw [HI.out], (by intro h; cases h), r3.out⟩
 have b91 : ((c.toNat : Int) == 91) = false := u8_ne (b := 91) h91
 by_cases h93 : c = 93
 ·have HI := hide (show itemS L = (false, 0, 2) by rw [HC.out, h93]; rfl)
  have b93 : ((c.toNat : Int) == 93) = true := by rw [h93]; rfl
  clear h42 h63 h91 h93 hc
  go_enter Tryz.func223, Tryz.ntmps223
  go_wp2_with fail
  have r2 := Blk.new w 253 #[.bool false, .int .u64 0, .int .u64 0, .int .u64 0, .int .u64 0]
  have r3 := hide (show Only NoBlk w (w.alloc (.cells #[.bool false, .int .u64 0, .int .u64 0, .int .u64 0, .int .u64 0] 253)) from (Only.refl _ w).alloc _)
  obtain ⟨wz, hz⟩ : ∃ wz, wz = w.alloc (.cells #[.bool false, .int .u64 0, .int .u64 0, .int .u64 0, .int .u64 0] 253) := ⟨_, rfl⟩
  rw [← hz] at r2 r3 ⊢
  clear hz
  obtain ⟨⟨k0, k1, k2, k3, k4⟩, _⟩ := r2.five
  refine bodyPost_ret (v := .tuple #[.agg #[.bool false, .int .u64 0, .int .u64 0, .int .u64 0, .int .u64 0], .int .i64 (0 : Nat), .int .i64 (2 : Nat)]) (by simp [results, Tryz.results223, go_sem, k0, k1, k2, k3, k4]) rfl ?_
  refine ⟨⟨false, 0, 0, 0, 0⟩, by rw [HI.out]; rfl, by rw [HI.out], (by intro h; cases h), r3.out⟩
 have b93 : ((c.toNat : Int) == 93) = false := u8_ne (b := 93) h93
 by_cases h37 : c = 37
 ·have b37 : ((c.toNat : Int) == 37) = true := by rw [h37]; rfl
  by_cases hz1 : s.size = 1
  ·have HI := hide (show itemS L = (false, 1, 3) by rw [HC.out, h37, suf_nil (by omega)]; rfl)
   have z1 : ((s.size : Int) == 1) = true := by rw [hz1]; rfl
   clear h42 h63 h91 h93 h37 hc hz1
   go_enter Tryz.func223, Tryz.ntmps223
   go_wp2_with fail
   have r2 := Blk.new w 253 #[.bool false, .int .u64 0, .int .u64 0, .int .u64 0, .int .u64 0]
   have r3 := hide (show Only NoBlk w (w.alloc (.cells #[.bool false, .int .u64 0, .int .u64 0, .int .u64 0, .int .u64 0] 253)) from (Only.refl _ w).alloc _)
   obtain ⟨wz, hz⟩ : ∃ wz, wz = w.alloc (.cells #[.bool false, .int .u64 0, .int .u64 0, .int .u64 0, .int .u64 0] 253) := ⟨_, rfl⟩
   rw [← hz] at r2 r3 ⊢
   clear hz
   obtain ⟨⟨k0, k1, k2, k3, k4⟩, _⟩ := r2.five
   refine bodyPost_ret (v := .tuple #[.agg #[.bool false, .int .u64 0, .int .u64 0, .int .u64 0, .int .u64 0], .int .i64 (1 : Nat), .int .i64 (3 : Nat)]) (by simp [results, Tryz.results223, go_sem, k0, k1, k2, k3, k4]) rfl ?_
   refine ⟨⟨false, 0, 0, 0, 0⟩, by rw [HI.out]; rfl, by rw [HI.out], (by intro h; cases h), r3.out⟩
  ·have hlt1 : 1 < s.size := by omega
   have HI := hide (show itemS L = (false, 2, 0) by rw [HC.out, h37, suf_cons hlt1]; rfl)
   have z1 : ((s.size : Int) == 1) = false := by simp only [beq_eq_false_iff_ne, ne_eq]; omega
   have j3 : (1 : Int) < (s.size : Int) := by omega
   have HSg := hide (fun (w' : World) => single_c (s[1]).toNat w' (by have := (s[1]).toNat_lt; omega))
   clear h42 h63 h91 h93 h37 hc hz1
   go_enter Tryz.func223, Tryz.ntmps223
   go_wp2_with fail
   refine (HSg.out _).mono ?_
   rintro e w4 ⟨q0, q1, q2, q3, rfl, hb⟩
   have hbo := Only.of_below hb NoBlk
   clear hb
   unfold setA
   replace HG := hide (HG.out.only hbo (fun h => h))
   replace HO := hide (HO.out.trans hbo)
   obtain ⟨⟨g0, g1, g2, g3, g4⟩, f0, f1, f2, f3, f4⟩ := HG.out.five
   clear hbo
   go_wp2_with fail
   clear g0 g1 g2 g3 g4 f0 f1 f2 f3 f4
   rw [put5]
   have r2 := HG.out.put [.bool false, .int .u64 q0, .int .u64 q1, .int .u64 q2, .int .u64 q3] rfl
   have r3 := hide (only_put_new [.bool false, .int .u64 q0, .int .u64 q1, .int .u64 q2, .int .u64 q3] 0 HO.out (Nat.le_refl w.heap.size))
   obtain ⟨wz, hz⟩ : ∃ wz, wz = putFrom w4 w.heap.size 0 [.bool false, .int .u64 q0, .int .u64 q1, .int .u64 q2, .int .u64 q3] := ⟨_, rfl⟩
   rw [← hz] at r2 r3 ⊢
   clear hz
   obtain ⟨⟨k0, k1, k2, k3, k4⟩, _⟩ := r2.five
   refine bodyPost_ret (v := .tuple #[.agg #[.bool false, .int .u64 q0, .int .u64 q1, .int .u64 q2, .int .u64 q3], .int .i64 (2 : Nat), .int .i64 (0 : Nat)]) (by simp [results, Tryz.results223, go_sem, k0, k1, k2, k3, k4]) rfl ?_
   refine ⟨⟨false, q0, q1, q2, q3⟩, by rw [HI.out]; rfl, by rw [HI.out], (by intro h; cases h), r3.out⟩
 ·have HI := hide (show itemS L = (false, 1, 0) by rw [HC.out]; exact item_byte h42 h63 h91 h93 h37)
  have b37 : ((c.toNat : Int) == 37) = false := u8_ne (b := 37) h37
  have HSg := hide (fun (w' : World) => single_c c.toNat w' (by have := c.toNat_lt; omega))
  clear h42 h63 h91 h93 h37 hc
  go_enter Tryz.func223, Tryz.ntmps223
  go_wp2_with fail
  refine (HSg.out _).mono ?_
  rintro e w4 ⟨q0, q1, q2, q3, rfl, hb⟩
  have hbo := Only.of_below hb NoBlk
  clear hb
  unfold setA
  replace HG := hide (HG.out.only hbo (fun h => h))
  replace HO := hide (HO.out.trans hbo)
  obtain ⟨⟨g0, g1, g2, g3, g4⟩, f0, f1, f2, f3, f4⟩ := HG.out.five
  clear hbo
  go_wp2_with fail
  clear g0 g1 g2 g3 g4 f0 f1 f2 f3 f4
  rw [put5]
  have r2 := HG.out.put [.bool false, .int .u64 q0, .int .u64 q1, .int .u64 q2, .int .u64 q3] rfl
  have r3 := hide (only_put_new [.bool false, .int .u64 q0, .int .u64 q1, .int .u64 q2, .int .u64 q3] 0 HO.out (Nat.le_refl w.heap.size))
  obtain ⟨wz, hz⟩ : ∃ wz, wz = putFrom w4 w.heap.size 0 [.bool false, .int .u64 q0, .int .u64 q1, .int .u64 q2, .int .u64 q3] := ⟨_, rfl⟩
  rw [← hz] at r2 r3 ⊢
  clear hz
  obtain ⟨⟨k0, k1, k2, k3, k4⟩, _⟩ := r2.five
  refine bodyPost_ret (v := .tuple #[.agg #[.bool false, .int .u64 q0, .int .u64 q1, .int .u64 q2, .int .u64 q3], .int .i64 (1 : Nat), .int .i64 (0 : Nat)]) (by simp [results, Tryz.results223, go_sem, k0, k1, k2, k3, k4]) rfl ?_
  refine ⟨⟨false, q0, q1, q2, q3⟩, by rw [HI.out]; rfl, by rw [HI.out], (by intro h; cases h), r3.out⟩
theorem Tryz.infoItem : (Tryz.prog.info? 253).map (fun i => (i.zero, i.size, i.bytes)) = some (some (.agg #[.bool false, .int .u64 0, .int .u64 0, .int .u64 0, .int .u64 0]), 5, 40) := by kernel_rfl
theorem encIt_one (x : ItM) : ∀ u ∈ encIt x, u.oneCell' = true := by intro u hu; simp [encIt] at hu; rcases hu with rfl | rfl | rfl | rfl | rfl <;> rfl
theorem encIt_len (x : ItM) : (encIt x).length = 5 := rfl
/-- so many runs ahead -/
def combS (rs : List Bool) (p : Nat) (x : List Bool × Nat × Nat) : List Bool × Nat × Nat := if x.2.2 ≠ 0 then ([], p + x.2.1, x.2.2) else (rs ++ x.1, 0, 0)
theorem comb_more {rs : List Bool} {p k : Nat} {l : List UInt8} (h : l ≠ []) (hk : k ≠ 60) (he : (itemS l).2.2 = 0) :
 combS rs p (parsesS k l) = combS (rs ++ [(itemS l).1]) (p + (itemS l).2.1) (parsesS (k + 1) (l.drop (itemS l).2.1)) := by
 rw [parsesS_more h hk he]
 unfold combS
 by_cases hx : (parsesS (k + 1) (l.drop (itemS l).2.1)).2.2 = 0
 ·simp [hx]
 ·simp [hx, Nat.add_assoc]
theorem parseS_shape (f k : Nat) (l : List UInt8) : ((parseS f k l).2.2 ≠ 0 → (parseS f k l).1 = []) ∧ ((parseS f k l).2.2 = 0 → (parseS f k l).2.1 = 0) := by
 cases f with
 | zero => simp [parseS]
 | succ f =>
  unfold parseS
  repeat' split
  all_goals simp_all
theorem comb_start (l : List UInt8) : parsesS 0 l = combS [] 0 (parsesS 0 l) := by
 obtain ⟨h1, h2⟩ := parseS_shape (l.length + 1) 0 l
 obtain ⟨r, a, e, hx⟩ : ∃ r a e, parsesS 0 l = (r, a, e) := ⟨_, _, _, rfl⟩
 have hx' : parseS (l.length + 1) 0 l = (r, a, e) := hx
 rw [hx'] at h1 h2
 rw [hx]
 unfold combS
 by_cases he : e = 0
 ·simp only at h2
  simp [he, h2 he]
 ·simp only at h1
  simp [he, h1 he]
theorem ext_suf (s : ByteArray) (q : Nat) (h : q ≤ s.size) : (s.extract q s.size).data.toList = suf s q := by
 unfold suf
 rw [ByteArray.data_extract, Array.toList_extract, List.extract_eq_take_drop]
 apply List.take_of_length_le
 rw [List.length_drop, ba_size]
 exact Nat.le_refl _
theorem ext_size (s : ByteArray) (q : Nat) (h : q ≤ s.size) : (s.extract q s.size).size = s.size - q := by
 rw [← ba_size, ext_suf s q h, suf_len]
theorem own_keep {S : Nat → Prop} {w w' : World} {base size n : Nat} {e : TypeId} {v : Value} {xs : List Value} (h : w.ownsRow base e size v n xs) (k : Only S w w') (hS : ∀ g cs, S g → ¬ Blk w g e cs) : w'.ownsRow base e size v n xs := by
 obtain ⟨hl, h2⟩ := h
 refine ⟨hl, ?_⟩
 rcases h2 with ⟨hv, hn⟩ | ⟨g, cap, cur, hv, hb, hh, r⟩
 ·exact Or.inl ⟨hv, hn⟩
 ·refine Or.inr ⟨g, cap, cur, hv, hb, ?_, r⟩
  have hlt : g < w.heap.size := Blk.lt (t := e) (cs := cur) hh
  rw [k.block g hlt (fun hs => hS g cur hs hh)]
  exact hh
theorem own_nil {w : World} {base size : Nat} {e : TypeId} (h : base ≤ w.heap.size) : w.ownsRow base e size (.slice none 0 0) 0 [] := ⟨by simp, Or.inl ⟨rfl, rfl⟩⟩
def RetParse (l : List UInt8) (w : World) (e : Ending) (w' : World) : Prop :=
 ∃ (A : Option Addr) (c : Nat) (its : List ItM), e = .returned (.tuple #[.slice A its.length c, .int .i64 (parsesS 0 l).2.1, .int .i64 (parsesS 0 l).2.2]) ∧ ((parsesS 0 l).2.2 = 0 → its.map (·.run) = (parsesS 0 l).1) ∧ (∀ x ∈ its, ItOk x) ∧ its.length ≤ 60 ∧ Rd w' NoBlk A (flat encIt its) ∧ Only NoBlk w w'
set_option maxRecDepth 100000 in
set_option maxHeartbeats 6400000 in
theorem Parse_c (s : ByteArray) (w : World) (hs : s.size ≤ 9223372036854775807) : Calls Tryz.prog 207 #[.string s] w (RetParse s.data.toList w) := by
 obtain ⟨i0, hi, hz0, hz1, hz2⟩ := info_parts Tryz.infoItem
 rw [← suf_all]
 go_enter Tryz.func207, Tryz.ntmps207
 go_wp2_with fail
 go_loopw [5, 6] (fun v i wr => ∃ (q : Nat) (its : List ItM), its.length ≤ 60 ∧ q ≤ s.size ∧ i = .int .i64 q ∧ Hid (wr.ownsRow w.heap.size 253 5 v its.length (flat encIt its)) ∧ Hid (∀ x ∈ its, ItOk x) ∧ Hid (Only NoBlk w wr) ∧ Hid (parsesS 0 (suf s 0) = combS (its.map (·.run)) q (parsesS its.length (suf s q)))) (fun _ i _ => s.size - (intOf i).toNat)
 case atStart => exact ⟨0, [], by simp, Nat.zero_le _, rfl, hide (own_nil (Nat.le_refl _)), hide (by simp), hide (Only.refl _ _), hide (comb_start _)⟩
 case round =>
  obtain ⟨q, its, hk, hq, rfl, HOW, HIT, HO, HP⟩ := hrel
  by_cases hlt : q < s.size
  ·have d1 : decide ((q : Int) < (s.size : Int)) = true := by simp; exact hlt
   have d2 : decide (q < s.size) = true := by simp; exact hlt
   have hne : suf s q ≠ [] := by rw [suf_cons hlt]; simp
   obtain ⟨A5, c5, rfl, hcap⟩ := own_cap HOW.out
   obtain ⟨k, hkk⟩ : ∃ k, k = its.length := ⟨_, rfl⟩
   rw [← hkk] at hk HOW HP ⊢
   have HKK := hide hkk
   clear hkk
   by_cases hk6 : k = 60
   ·subst hk6
    have HQ := hide (show parsesS 0 (suf s 0) = ([], q, 4) by rw [HP.out, parsesS_full hne]; rfl)
    clear hne
    go_wp2_with fail
    refine bodyPost_ret (v := .tuple #[.slice none 0 0, .int .i64 q, .int .i64 (4 : Nat)]) (by simp [results, Tryz.results207, go_sem]) rfl ?_
    unfold RetParse
    rw [HQ.out]
    exact ⟨none, 0, [], rfl, by simp, by simp, by simp, Or.inl rfl, HO.out⟩
   ·have hkb : ((k : Int) == 60) = false := by simp only [beq_eq_false_iff_ne, ne_eq]; omega
    have HI := hide (fun (w' : World) => item_c (s.extract q s.size) w' (by rw [ext_size s q hq]; omega) (by rw [ext_size s q hq]; omega))
    rw [ext_suf s q hq] at HI
    have hle := itemS_le (suf s q)
    have hpos := itemS_pos (l := suf s q) hne
    have hcm := comb_more (rs := its.map (·.run)) (p := q) (k := k) hne hk6
    have hbd := parsesS_bad (l := suf s q) (k := k) hne hk6
    unfold RetItem at HI
    rw [suf_len] at hle
    obtain ⟨rn, n, e0, hit⟩ : ∃ rn n e0, itemS (suf s q) = (rn, n, e0) := ⟨_, _, _, rfl⟩
    rw [hit] at HI hle hpos hcm hbd
    simp only at hle hpos hcm hbd
    rw [suf_drop] at hcm
    have w1 : IntKind.i64.wrap ((q : Int) + (n : Int)) = (q : Int) + (n : Int) := IntWalk.i64_in _ (by omega)
    have j1 : (0 : Int) ≤ (q : Int) := by omega
    have j2 : (q : Int) ≤ (s.size : Int) := by omega
    by_cases he : e0 = 0
    ·subst he
     have HCM := hide (hcm rfl)
     have HPO := hide (hpos rfl)
     clear hcm hbd hpos hit hne
     go_wp2_with fail
     refine (HI.out _).mono ?_
     rintro e w4 ⟨⟨xr, xa, xb, xc, xd⟩, rfl, hxr, hxo, ho4⟩
     have HXR := hide hxr
     have HXO := hide hxo
     have HOW4 := hide (own_keep HOW.out ho4 (fun _ _ h => h.elim))
     replace HO := hide (HO.out.trans ho4)
     clear hxr hxo
     unfold encIt
     have hb4 : w.heap.size ≤ w4.heap.size := HO.out.size
     clear ho4 HOW
     have HOW := hide ((HOW4.out.alloc (.cells #[.bool xr, .int .u64 xa, .int .u64 xb, .int .u64 xc, .int .u64 xd] 253)).alloc (.cells #[.bool xr, .int .u64 xa, .int .u64 xb, .int .u64 xc, .int .u64 xd] 253))
     have Hrd := hide (show Rd ((w4.alloc (.cells #[.bool xr, .int .u64 xa, .int .u64 xb, .int .u64 xc, .int .u64 xd] 253)).alloc (.cells #[.bool xr, .int .u64 xa, .int .u64 xb, .int .u64 xc, .int .u64 xd] 253)) NoBlk (some ⟨w4.heap.size + 1, 0, none⟩) (encIt ⟨xr, xa, xb, xc, xd⟩) from rd_blkN (Blk.new' (by simp)) (fun h => h))
     have HO2 := hide ((HO.out.alloc (.cells #[.bool xr, .int .u64 xa, .int .u64 xb, .int .u64 xc, .int .u64 xd] 253)).alloc (.cells #[.bool xr, .int .u64 xa, .int .u64 xb, .int .u64 xc, .int .u64 xd] 253))
     have Hone := hide (encIt_one ⟨xr, xa, xb, xc, xd⟩)
     go_wp2_with (at_builtin; refine wpList_append_rd _ rfl (.tmp 32) (.tmp 34) _ rfl w.heap.size 253 i0 _ 5 40 Tryz.underlying187 hi hz0 hz1 hz2 rfl (by omega) _ k _ rfl HOW.out NoBlk (some ⟨w4.heap.size + 1, 0, none⟩) 1 1 (encIt ⟨xr, xa, xb, xc, xd⟩) rfl Hrd.out rfl Hone.out (by simp only [maxLen]; omega) (by omega) (by simp; omega) ?_; intro v2 w2 hown2 hgr _; have Own2 := hide hown2; have Gr := hide hgr; clear hown2 hgr)
     go_roundw
     case rel =>
      refine ⟨q + n, its ++ [⟨xr, xa, xb, xc, xd⟩], ?_, by omega, by go_num, ?_, ?_, ?_, ?_⟩
      ·rw [List.length_append, ← HKK.out]; simp; omega
      ·exact hide (by rw [flat_append, List.length_append, ← HKK.out]; have := Own2.out; simpa [flat] using this)
      ·exact hide (by intro y hy; rcases List.mem_append.1 hy with hy | hy; exact HIT.out y hy; rw [List.mem_singleton.1 hy]; exact HXO.out)
      ·exact hide (HO2.out.grown Gr.out (fun j hj => Or.inr (own_ge HOW.out j hj)))
      ·exact hide (by rw [HP.out, HCM.out, List.map_append, List.length_append, ← HKK.out, ← HXR.out]; rfl)
     case measure => simp [intOf]; have := HPO.out; omega
    ·have hne0 : ((e0 : Int) != 0) = true := by simp only [bne_iff_ne, ne_eq]; omega
     have HQ := hide (show parsesS 0 (suf s 0) = ([], q + n, e0) by rw [HP.out, hbd he]; unfold combS; rw [if_pos he])
     clear hcm hbd hpos hit hne he
     go_wp2_with fail
     refine (HI.out _).mono ?_
     rintro e w4 ⟨⟨xr, xa, xb, xc, xd⟩, rfl, hxr, hxo, ho4⟩
     replace HO := hide (HO.out.trans ho4)
     clear hxr hxo ho4
     unfold encIt
     go_wp2_with fail
     refine bodyPost_ret (v := .tuple #[.slice none 0 0, .int .i64 ((q : Int) + (n : Int)), .int .i64 e0]) (by simp [results, Tryz.results207, go_sem]) rfl ?_
     unfold RetParse
     rw [HQ.out]
     exact ⟨none, 0, [], rfl, fun h => absurd h (by simpa using hne0), by simp, by simp, Or.inl rfl, HO.out.alloc _⟩
  ·obtain rfl : q = s.size := by omega
   have d1 : decide ((s.size : Int) < (s.size : Int)) = false := by simp
   have d2 : decide (s.size < s.size) = false := by simp
   obtain ⟨A5, c5, rfl, hcap⟩ := own_cap HOW.out
   obtain ⟨k, hkk⟩ : ∃ k, k = its.length := ⟨_, rfl⟩
   rw [← hkk] at hk HOW HP ⊢
   have HKK := hide hkk
   clear hkk
   have HQ := hide (show parsesS 0 (suf s 0) = (its.map (·.run), 0, 0) by rw [HP.out, suf_nil (Nat.le_refl _), parsesS_nil]; simp [combS])
   have HRd := hide (Rd.of_own (M := NoBlk) HOW.out (fun k h => h.elim))
   go_wp2_with fail
   refine bodyPost_ret (v := .tuple #[.slice A5 k c5, .int .i64 (0 : Nat), .int .i64 (0 : Nat)]) (by simp [results, Tryz.results207, go_sem]) rfl ?_
   unfold RetParse
   rw [HQ.out, HKK.out]
   exact ⟨A5, c5, its, rfl, fun _ => rfl, HIT.out, by rw [← HKK.out]; exact hk, HRd.out, HO.out⟩
def itAt (l : List ItM) (k : Nat) : ItM := l.getD k ⟨false, 0, 0, 0, 0⟩
theorem itAt_some {l : List ItM} {k : Nat} (hk : k < l.length) : l[k]? = some (itAt l k) := by simp [itAt, List.getD, hk]
theorem itAt_mem {l : List ItM} {k : Nat} (hk : k < l.length) : itAt l k ∈ l := by
 have h := itAt_some hk
 exact List.mem_of_getElem? h
theorem it_cells {w : World} {M : Nat → Prop} {A : Option Addr} {l : List ItM} (hr : Rd w M A (flat encIt l)) (k : Nat) (hk : k < l.length) : ∃ b o, A = some ⟨b, o, none⟩ ∧ b < w.heap.size ∧
 w.cell? ⟨b, o + k * 5, none⟩ = some (.bool (itAt l k).run) ∧ w.cell? ⟨b, o + k * 5 + 1, none⟩ = some (.int .u64 (itAt l k).a) ∧ w.cell? ⟨b, o + k * 5 + 2, none⟩ = some (.int .u64 (itAt l k).b) ∧
 w.cell? ⟨b, o + k * 5 + 3, none⟩ = some (.int .u64 (itAt l k).c) ∧ w.cell? ⟨b, o + k * 5 + 4, none⟩ = some (.int .u64 (itAt l k).d) := by
 obtain ⟨b, o, hA, _, hb, hc⟩ := flat_cells encIt_len hr k _ (itAt_some hk) (by omega)
 exact ⟨b, o, hA, hb, hc 0 (by omega), hc 1 (by omega), hc 2 (by omega), hc 3 (by omega), hc 4 (by omega)⟩
def idxP (p : ItM → Bool) (l : List ItM) : Int := if l.any p then (l.findIdx p : Int) else -1
theorem idxP_at (p : ItM → Bool) (l : List ItM) (k : Nat) (hk : k < l.length) (h : ∀ y ∈ l.take k, p y = false) (hx : p (itAt l k) = true) : idxP p l = k := by
 have e : itAt l k = l[k] := by simp [itAt, List.getD, hk]
 rw [e] at hx
 unfold idxP
 have ha : l.any p = true := List.any_eq_true.2 ⟨l[k], List.getElem_mem hk, hx⟩
 rw [if_pos ha]
 have : l.findIdx p = k := by
  rw [List.findIdx_eq hk]
  refine ⟨hx, fun j hj => ?_⟩
  exact h _ (by rw [List.mem_take_iff_getElem]; exact ⟨j, by omega, rfl⟩)
 rw [this]
theorem idxP_none (p : ItM → Bool) (l : List ItM) (h : ∀ y ∈ l, p y = false) : idxP p l = -1 := by
 unfold idxP
 have ha : ¬ l.any p = true := by
  rw [List.any_eq_true]
  rintro ⟨x, hx, ho⟩
  rw [h x hx] at ho
  cases ho
 rw [if_neg ha]
theorem idxP_ge (p : ItM → Bool) (l : List ItM) : decide (idxP p l ≥ 0) = l.any p := by
 unfold idxP
 cases h : l.any p <;> simp
def noRun (x : ItM) : Bool := !x.run
def never (x : ItM) : Bool := false
set_option maxRecDepth 100000 in
theorem eq_zero (w : World) : Sem.run Tryz.prog (Op.equalIn 10000 249 (.agg #[.int .u64 0, .int .u64 0, .int .u64 0, .int .u64 0]) (.agg #[.int .u64 0, .int .u64 0, .int .u64 0, .int .u64 0])) w = .ok true w := by kernel_rfl
set_option maxRecDepth 100000 in
set_option maxHeartbeats 1600000 in
theorem noRun_c (x : ItM) (w : World) : Calls Tryz.prog 238 #[.agg #[.bool x.run, .int .u64 x.a, .int .u64 x.b, .int .u64 x.c, .int .u64 x.d]] w fun e w' => e = .returned (.bool (noRun x)) ∧ Below w.heap.size w w' := by
 obtain ⟨r, a, b, c, d⟩ := x
 go_enter Tryz.func238, Tryz.ntmps238
 go_wp2_with fail
 go_ret
 exact ⟨rfl, below_alloc _ _⟩
set_option maxRecDepth 100000 in
set_option maxHeartbeats 1600000 in
theorem never_c (x : ItM) (hx : ItOk x) (w : World) : Calls Tryz.prog 247 #[.agg #[.bool x.run, .int .u64 x.a, .int .u64 x.b, .int .u64 x.c, .int .u64 x.d]] w fun e w' => e = .returned (.bool (never x)) ∧ Below w.heap.size w w' := by
 obtain ⟨r, a, b, c, d⟩ := x
 cases r with
 | false =>
  go_enter Tryz.func247, Tryz.ntmps247
  go_wp2_with fail
  go_ret
  exact ⟨rfl, below_alloc _ _⟩
 | true =>
  obtain ⟨h1, h2, h3, h4⟩ := hx rfl
  simp only at h1 h2 h3 h4
  subst h1 h2 h3 h4
  have hcmp := @eq_zero
  go_enter Tryz.func247, Tryz.ntmps247
  go_wp2_with fail
  go_ret
  exact ⟨rfl, below_alloc _ _⟩
set_option maxRecDepth 100000 in
set_option maxHeartbeats 1600000 in
theorem Index_noRun (M : Nat → Prop) (A : Option Addr) (c : Nat) (l : List ItM) (w : World) (hr : Rd w M A (flat encIt l)) (hn0 : l.length ≤ maxLen) :
 Calls Tryz.prog 248 #[.slice A l.length c, .func (.func 238) #[] #[]] w fun e w' => e = .returned (.int .i64 (idxP noRun l)) ∧ Below w.heap.size w w' := by
 have hn : l.length ≤ 9223372036854775807 := hn0
 have Hc := hide (fun k hk => it_cells hr k hk)
 skip
 obtain ⟨n, hnl⟩ : ∃ n, n = l.length := ⟨_, rfl⟩
 rw [← hnl] at hn ⊢
 have Hn := hide hnl
 clear hr hn0 hnl
 go_enter Tryz.func248, Tryz.ntmps248
 go_wp2_with fail
 go_loopw [8] (fun i wr => ∃ k : Nat, k ≤ n ∧ i = .int .i64 k ∧ Hid (∀ y ∈ l.take k, noRun y = false) ∧ Below w.heap.size w wr) (fun i _ => n - (intOf i).toNat)
 case atStart => exact ⟨0, Nat.zero_le _, rfl, hide (by simp), Below.refl _ _⟩
 case round =>
  obtain ⟨k, hk, rfl, hnone, hbel⟩ := hrel
  by_cases hlt2 : k < n
  ·obtain ⟨b2, o, rfl, hb2, g0, g1, g2, g3, g4⟩ := Hc.out k (by rw [← Hn.out]; exact hlt2)
   replace g0 := bkeepL hbel hb2 g0
   replace g1 := bkeepL hbel hb2 g1
   replace g2 := bkeepL hbel hb2 g2
   replace g3 := bkeepL hbel hb2 g3
   replace g4 := bkeepL hbel hb2 g4
   have hpred := noRun_c (itAt l k) wr
   cases ho : noRun (itAt l k) with
   | true =>
    rw [ho] at hpred
    have HP := hide hpred
    have HI := hide (idxP_at noRun l k (by rw [← Hn.out]; exact hlt2) hnone.out ho)
    clear hpred ho
    go_wp2_with (go_at_call 238; refine HP.out.mono ?_; rintro e w2 ⟨rfl, hb2⟩)
    go_ret
    exact ⟨ret_int HI.out.symm, hbel.trans (hb2.mono hbel.size)⟩
   | false =>
    rw [ho] at hpred
    have HP := hide hpred
    have HI : Hid (∀ y ∈ l.take (k + 1), noRun y = false) := by
     intro y hy
     rw [List.take_succ_eq_append_getElem (by rw [← Hn.out]; exact hlt2)] at hy
     rcases List.mem_append.1 hy with hy | hy
     ·exact hnone.out y hy
     ·simp at hy
      subst hy
      rw [← ho]
      have e : itAt l k = l[k]'(by rw [← Hn.out]; exact hlt2) := by simp [itAt, List.getD, show k < l.length by rw [← Hn.out]; exact hlt2]
      rw [e]
    clear hpred ho hnone
    go_wp2_with (go_at_call 238; refine HP.out.mono ?_; rintro e w2 ⟨rfl, hb2⟩)
    go_roundw
    case rel => exact ⟨k + 1, by omega, by go_num, HI, hbel.trans (hb2.mono hbel.size)⟩
    case measure => simp [intOf]; omega
  ·have hd : decide ((k : Int) < n) = false := by simp; omega
   have hd2 : decide (k < n) = false := by simp; omega
   have HI := hide (idxP_none noRun l (fun y hy => hnone.out y (by rw [List.take_of_length_le (by rw [← Hn.out]; omega)]; exact hy)))
   go_wp2_with fail
   go_ret
   exact ⟨ret_int HI.out.symm, hbel⟩
set_option maxRecDepth 100000 in
set_option maxHeartbeats 1600000 in
theorem Contains_noRun (M : Nat → Prop) (A : Option Addr) (c : Nat) (l : List ItM) (w : World) (hr : Rd w M A (flat encIt l)) (hn0 : l.length ≤ maxLen) :
 Calls Tryz.prog 237 #[.slice A l.length c, .func (.func 238) #[] #[]] w fun e w' => e = .returned (.bool (l.any noRun)) ∧ Below w.heap.size w w' := by
 have HI := hide (fun (w' : World) (hr' : Rd w' M A (flat encIt l)) => Index_noRun M A c l w' hr' hn0 )
 have HR := hide hr
 have HE := hide (idxP_ge noRun l)
 obtain ⟨n, hnl⟩ : ∃ n, n = l.length := ⟨_, rfl⟩
 rw [← hnl] at HI ⊢
 clear hr hn0 hnl
 go_enter Tryz.func237, Tryz.ntmps237
 go_wp2_with fail
 refine (HI.out _ HR.out).mono ?_
 rintro e w2 ⟨rfl, hb2⟩
 go_wp2_with fail
 go_ret
 exact ⟨by rw [← HE.out]; rfl, hb2⟩
set_option maxRecDepth 100000 in
set_option maxHeartbeats 1600000 in
theorem Index_never (M : Nat → Prop) (A : Option Addr) (c : Nat) (l : List ItM) (w : World) (hr : Rd w M A (flat encIt l)) (hn0 : l.length ≤ maxLen) (hok : ∀ x ∈ l, ItOk x) :
 Calls Tryz.prog 248 #[.slice A l.length c, .func (.func 247) #[] #[]] w fun e w' => e = .returned (.int .i64 (idxP never l)) ∧ Below w.heap.size w w' := by
 have hn : l.length ≤ 9223372036854775807 := hn0
 have Hc := hide (fun k hk => it_cells hr k hk)
 have HOK := hide hok
 obtain ⟨n, hnl⟩ : ∃ n, n = l.length := ⟨_, rfl⟩
 rw [← hnl] at hn ⊢
 have Hn := hide hnl
 clear hr hn0 hnl
 go_enter Tryz.func248, Tryz.ntmps248
 go_wp2_with fail
 go_loopw [8] (fun i wr => ∃ k : Nat, k ≤ n ∧ i = .int .i64 k ∧ Hid (∀ y ∈ l.take k, never y = false) ∧ Below w.heap.size w wr) (fun i _ => n - (intOf i).toNat)
 case atStart => exact ⟨0, Nat.zero_le _, rfl, hide (by simp), Below.refl _ _⟩
 case round =>
  obtain ⟨k, hk, rfl, hnone, hbel⟩ := hrel
  by_cases hlt2 : k < n
  ·obtain ⟨b2, o, rfl, hb2, g0, g1, g2, g3, g4⟩ := Hc.out k (by rw [← Hn.out]; exact hlt2)
   replace g0 := bkeepL hbel hb2 g0
   replace g1 := bkeepL hbel hb2 g1
   replace g2 := bkeepL hbel hb2 g2
   replace g3 := bkeepL hbel hb2 g3
   replace g4 := bkeepL hbel hb2 g4
   have hpred := never_c (itAt l k) (HOK.out _ (itAt_mem (by rw [← Hn.out]; exact hlt2))) wr
   cases ho : never (itAt l k) with
   | true =>
    rw [ho] at hpred
    have HP := hide hpred
    have HI := hide (idxP_at never l k (by rw [← Hn.out]; exact hlt2) hnone.out ho)
    clear hpred ho
    go_wp2_with (go_at_call 247; refine HP.out.mono ?_; rintro e w2 ⟨rfl, hb2⟩)
    go_ret
    exact ⟨ret_int HI.out.symm, hbel.trans (hb2.mono hbel.size)⟩
   | false =>
    rw [ho] at hpred
    have HP := hide hpred
    have HI : Hid (∀ y ∈ l.take (k + 1), never y = false) := by
     intro y hy
     rw [List.take_succ_eq_append_getElem (by rw [← Hn.out]; exact hlt2)] at hy
     rcases List.mem_append.1 hy with hy | hy
     ·exact hnone.out y hy
     ·simp at hy
      subst hy
      rw [← ho]
      have e : itAt l k = l[k]'(by rw [← Hn.out]; exact hlt2) := by simp [itAt, List.getD, show k < l.length by rw [← Hn.out]; exact hlt2]
      rw [e]
    clear hpred ho hnone
    go_wp2_with (go_at_call 247; refine HP.out.mono ?_; rintro e w2 ⟨rfl, hb2⟩)
    go_roundw
    case rel => exact ⟨k + 1, by omega, by go_num, HI, hbel.trans (hb2.mono hbel.size)⟩
    case measure => simp [intOf]; omega
  ·have hd : decide ((k : Int) < n) = false := by simp; omega
   have hd2 : decide (k < n) = false := by simp; omega
   have HI := hide (idxP_none never l (fun y hy => hnone.out y (by rw [List.take_of_length_le (by rw [← Hn.out]; omega)]; exact hy)))
   go_wp2_with fail
   go_ret
   exact ⟨ret_int HI.out.symm, hbel⟩
set_option maxRecDepth 100000 in
set_option maxHeartbeats 1600000 in
theorem Contains_never (M : Nat → Prop) (A : Option Addr) (c : Nat) (l : List ItM) (w : World) (hr : Rd w M A (flat encIt l)) (hn0 : l.length ≤ maxLen) (hok : ∀ x ∈ l, ItOk x) :
 Calls Tryz.prog 237 #[.slice A l.length c, .func (.func 247) #[] #[]] w fun e w' => e = .returned (.bool (l.any never)) ∧ Below w.heap.size w w' := by
 have HI := hide (fun (w' : World) (hr' : Rd w' M A (flat encIt l)) => Index_never M A c l w' hr' hn0 hok)
 have HR := hide hr
 have HE := hide (idxP_ge never l)
 obtain ⟨n, hnl⟩ : ∃ n, n = l.length := ⟨_, rfl⟩
 rw [← hnl] at HI ⊢
 clear hr hn0 hnl
 go_enter Tryz.func237, Tryz.ntmps237
 go_wp2_with fail
 refine (HI.out _ HR.out).mono ?_
 rintro e w2 ⟨rfl, hb2⟩
 go_wp2_with fail
 go_ret
 exact ⟨by rw [← HE.out]; rfl, hb2⟩
set_option maxRecDepth 100000 in
set_option maxHeartbeats 1600000 in
theorem good_c (M : Nat → Prop) (A : Option Addr) (c : Nat) (l : List ItM) (w : World) (hr : Rd w M A (flat encIt l)) (hn : l.length ≤ 60) (hok : ∀ x ∈ l, ItOk x) :
 Calls Tryz.prog 236 #[.slice A l.length c] w fun e w' => e = .returned (.bool true) ∧ Below w.heap.size w w' := by
 have HI := hide (Contains_never M A c l w hr (by unfold maxLen; omega) hok)
 have e : l.any never = false := by simp [never]
 rw [e] at HI
 obtain ⟨n, hnl⟩ : ∃ n, n = l.length := ⟨_, rfl⟩
 rw [← hnl] at HI hn ⊢
 have d1 : decide ((n : Int) ≤ 60) = true := by simp; omega
 have d2 : decide (n ≤ 60) = true := by simp; omega
 clear hr hnl hok e
 go_enter Tryz.func236, Tryz.ntmps236
 go_wp2_with fail
 refine HI.out.mono ?_
 rintro e w2 ⟨rfl, hb2⟩
 go_wp2_with fail
 go_ret
 exact ⟨rfl, hb2⟩
set_option maxRecDepth 100000 in
set_option maxHeartbeats 1600000 in
theorem Good_c (M : Nat → Prop) (A : Option Addr) (c : Nat) (l : List ItM) (w : World) (hr : Rd w M A (flat encIt l)) (hn : l.length ≤ 60) (hok : ∀ x ∈ l, ItOk x) :
 Calls Tryz.prog 224 #[.slice A l.length c] w fun e w' => e = .returned (.bool true) ∧ Below w.heap.size w w' := by
 have HI := hide (good_c M A c l w hr hn hok)
 clear hr hok
 go_enter Tryz.func224, Tryz.ntmps224
 go_wp2_with fail
 refine HI.out.mono ?_
 rintro e w2 ⟨rfl, hb2⟩
 go_wp2_with fail
 go_ret
 exact ⟨rfl, hb2⟩
theorem all_run (l : List ItM) : (!(l.any noRun)) = (l.map (·.run)).all id := by
 induction l with
 | nil => rfl
 | cons x r ih => simp only [List.any_cons, List.map_cons, List.all_cons, id, ← ih, noRun]; cases x.run <;> simp
set_option maxRecDepth 100000 in
set_option maxHeartbeats 1600000 in
theorem Empty_c (M : Nat → Prop) (A : Option Addr) (c : Nat) (l : List ItM) (w : World) (hr : Rd w M A (flat encIt l)) (hn : l.length ≤ 60) :
 Calls Tryz.prog 225 #[.slice A l.length c] w fun e w' => e = .returned (.bool ((l.map (·.run)).all id)) ∧ Below w.heap.size w w' := by
 have HI := hide (Contains_noRun M A c l w hr (by unfold maxLen; omega))
 rw [← all_run]
 clear hr
 go_enter Tryz.func225, Tryz.ntmps225
 go_wp2_with fail
 refine HI.out.mono ?_
 rintro e w2 ⟨rfl, hb2⟩
 go_wp2_with fail
 go_ret
 exact ⟨rfl, hb2⟩
end Go.Proofs.YtaioaojfdngfdaaGreatDoor
