/- A set's text, by the program: class.Read. Conditions: those of each theorem. -/
import Derived.Test.YtgfogoplmokilaaRdr3
import Derived.BigRegion
namespace Go.Proofs.Ytgfogoplmokilaa
open Go.RowKit
set_option linter.unusedVariables false

theorem suf_all (s : ByteArray) : suf s 0 = s.data.toList := rfl
set_option maxRecDepth 100000 in
set_option maxHeartbeats 6400000 in
theorem Read_c (s : ByteArray) (w : World) (hs : s.size ≤ 9223372036854775807) : Calls Try.prog 137 #[.string s] w fun e w' =>
    ∃ a b c d : Int, e = .returned (.tuple #[.agg (setA a b c d), .int .i64 (readS s.data.toList).1, .int .i64 (readS s.data.toList).2]) ∧ Only NoBlk w w' := by
  obtain ⟨at_, bad, hrd⟩ : ∃ at_ bad, readS s.data.toList = (at_, bad) := ⟨_, _, rfl⟩
  obtain ⟨W, hW⟩ : ∃ W, W = (w.alloc (.cells #[.int .u64 0, .int .u64 0, .int .u64 0, .int .u64 0] 183)).alloc (.cells #[.string s, .int .i64 0, .int .i64 0] 201) := ⟨_, rfl⟩
  have HW := hide hW
  have HR := hide (show RAt W (w.heap.size + 1) s 0 0 by rw [hW]; exact Blk.new' (by simp))
  have HB := hide (show Only NoBlk w W by rw [hW]; exact ((Only.refl _ w).alloc _).alloc _)
  have HG := hide (show Blk W w.heap.size 183 #[.int .u64 0, .int .u64 0, .int .u64 0, .int .u64 0] by rw [hW]; exact (Blk.new w 183 _).alloc _)
  have HC := hide (show Calls Try.prog 144 #[.pointer (some ⟨w.heap.size + 1, 0, none⟩)] W (RetPart W (w.heap.size + 1) s at_ bad) from by
    have h := whole_c HR.out hs
    rw [suf_all, hrd] at h
    exact h)
  rw [hrd]
  clear hW hrd
  go_enter Try.func137, Try.ntmps137
  go_upto_region 2 with fail
  change Code.wp _ _ _ _ ((w.alloc (.cells #[.int .u64 0, .int .u64 0, .int .u64 0, .int .u64 0] 183)).alloc (.cells #[.string s, .int .i64 0, .int .i64 0] 201))
  rw [← HW.out]
  go_wp2_with fail
  refine HC.out.mono ?_
  rintro e w2 ⟨q0, q1, q2, q3, rfl, hr2, ho2⟩
  unfold setA
  have HG3 := hide ((HG.out.only ho2 (by omega)).alloc (.cells #[.int .u64 q0, .int .u64 q1, .int .u64 q2, .int .u64 q3] 183))
  have HB3 := hide ((HB.out.fresh ho2 (fun i _ h => Or.inr (by omega))).alloc (.cells #[.int .u64 q0, .int .u64 q1, .int .u64 q2, .int .u64 q3] 183))
  have HR3 := hide (Blk.alloc hr2 (.cells #[.int .u64 q0, .int .u64 q1, .int .u64 q2, .int .u64 q3] 183))
  have HS3 := hide (Blk.new w2 183 #[.int .u64 q0, .int .u64 q1, .int .u64 q2, .int .u64 q3])
  have hn1 : ¬ w2.heap.size = w.heap.size := by have := ho2.size; have := HR.out.lt; omega
  have hn2 : ¬ w2.heap.size = w.heap.size + 1 := by have := ho2.size; have := HR.out.lt; omega
  clear ho2 hr2 HC HG HB HR
  go_upto_region 3 with fail
  change Code.wp _ _ _ _ (w2.alloc (.cells #[.int .u64 q0, .int .u64 q1, .int .u64 q2, .int .u64 q3] 183))
  obtain ⟨w3, hw3⟩ : ∃ w3, w3 = w2.alloc (.cells #[.int .u64 q0, .int .u64 q1, .int .u64 q2, .int .u64 q3] 183) := ⟨_, rfl⟩
  rw [← hw3] at HG3 HB3 HR3 HS3 ⊢
  clear hw3
  have hn3 : ¬ w.heap.size = w2.heap.size := fun h => hn1 h.symm
  have hn4 : ¬ w.heap.size + 1 = w2.heap.size := fun h => hn2 h.symm
  obtain ⟨⟨g0, g1, g2⟩, f0, f1, f2⟩ := RAt.cells HR3.out
  obtain ⟨⟨k0, k1, k2, k3⟩, l0, l1, l2, l3⟩ := HG3.out.four
  obtain ⟨⟨j0, j1, j2, j3⟩, i0, i1, i2, i3⟩ := HS3.out.four
  by_cases hb : bad = 0
  · subst hb
    go_upto_region 4 with fail
    go_region
    clear k0 k1 k2 k3 l0 l1 l2 l3 j0 j1 j2 j3 i0 i1 i2 i3
    go_wp2_with fail
    rw [put4]
    have r2 := (HG3.out.put [.int .u64 q0, .int .u64 q1, .int .u64 q2, .int .u64 q3] rfl).drew
    have r3 := hide (only_put_new [.int .u64 q0, .int .u64 q1, .int .u64 q2, .int .u64 q3] 0 HB3.out (Nat.le_refl w.heap.size)).drew
    obtain ⟨wz, hz⟩ : ∃ wz, wz = (putFrom w3 w.heap.size 0 [.int .u64 q0, .int .u64 q1, .int .u64 q2, .int .u64 q3]).drew := ⟨_, rfl⟩
    rw [← hz] at r2 r3 ⊢
    clear hz
    obtain ⟨⟨k0, k1, k2, k3⟩, _⟩ := r2.four
    refine bodyPost_ret (v := .tuple #[.agg #[.int .u64 q0, .int .u64 q1, .int .u64 q2, .int .u64 q3], .int .i64 at_, .int .i64 (0 : Nat)]) (by simp [results, Try.results137, go_sem, k0, k1, k2, k3]) rfl ?_
    exact ⟨q0, q1, q2, q3, rfl, r3.out⟩
  · have hbe : ((bad : Int) == 0) = false := by simpa using hb
    go_upto_region 5 with fail
    go_region
    clear k0 k1 k2 k3 l0 l1 l2 l3 j0 j1 j2 j3 i0 i1 i2 i3
    go_wp2_with fail
    rw [put4]
    have r2 := (HG3.out.put [.int .u64 0, .int .u64 0, .int .u64 0, .int .u64 0] rfl).drew
    have r3 := hide (only_put_new [.int .u64 0, .int .u64 0, .int .u64 0, .int .u64 0] 0 HB3.out (Nat.le_refl w.heap.size)).drew
    obtain ⟨wz, hz⟩ : ∃ wz, wz = (putFrom w3 w.heap.size 0 [.int .u64 0, .int .u64 0, .int .u64 0, .int .u64 0]).drew := ⟨_, rfl⟩
    rw [← hz] at r2 r3 ⊢
    clear hz
    obtain ⟨⟨k0, k1, k2, k3⟩, _⟩ := r2.four
    refine bodyPost_ret (v := .tuple #[.agg #[.int .u64 0, .int .u64 0, .int .u64 0, .int .u64 0], .int .i64 at_, .int .i64 bad]) (by simp [results, Try.results137, go_sem, k0, k1, k2, k3]) rfl ?_
    exact ⟨0, 0, 0, 0, rfl, r3.out⟩
end Go.Proofs.Ytgfogoplmokilaa
