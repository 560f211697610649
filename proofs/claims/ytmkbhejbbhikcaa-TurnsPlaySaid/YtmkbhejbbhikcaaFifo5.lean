/- A new row. Conditions: those of each theorem. -/
import Derived.Test.YtmkbhejbbhikcaaFifo4
namespace Go.Proofs.Ytmkbhejbbhikcaa
open Go.RowKit
set_option linter.unusedVariables false

theorem Try.infoBool : (Try.prog.info? 4).map (fun i => (i.zero, i.size, i.bytes)) = some (some (.bool false), 1, 1) := by kernel_rfl
def falses (n : Nat) : List Bool := List.replicate n false
theorem bools_zero (n : Nat) : madeCells (Value.bool false).cells (n * 1) = bools (falses n) := by
  apply Array.ext'
  show (madeCells #[Value.bool false] (n * 1)).toList = _
  rw [toList_madeCells_one]
  simp [bools, falses]
theorem mk_bools (N : Int) (h0 : 0 ≤ N) (h1 : N ≤ 100000) (w : World) :
    (Instr.makeSlice 117 (.int .i64 N) (.int .i64 N)).run Try.prog w = .ok (.slice (some ⟨w.heap.size, 0, none⟩) N.toNat N.toNat) (w.alloc (.cells (bools (falses N.toNat)) 4)) := by
  obtain ⟨i, hi, hz0, hz1, hz2⟩ := info_parts Try.infoBool
  obtain ⟨n, rfl⟩ := Int.eq_ofNat_of_zero_le h0
  rw [run_make_rowN 117 4 i _ Try.underlying117 hi hz0 .i64 .i64 n n (Nat.le_refl _) (by rw [hz2]; omega) (by omega) w, hz1, bools_zero]
  simp
def emptyC (n : Nat) : FifoC := ⟨zeros n, zeros n, falses n, -1, -1, 0⟩
theorem emptyC_rep (n : Nat) (h0 : 1 ≤ n) (h1 : n ≤ 1024) : FRep (emptyC n) n [] := by
  refine ⟨h0, h1, zeros_len n, zeros_len n, by simp [emptyC, falses], by simp, by simp, rfl, rfl, rfl, fun x hx0 hx1 => ?_, trivial⟩
  show bat (falses n) x = _
  unfold bat falses
  by_cases h : x.toNat < n
  · simp [List.getD, h]
  · simp [List.getD, h]

def NewFifo (N : Nat) (w : World) (e : Ending) (w' : World) : Prop :=
  ∃ b nb pb ib, e = .returned (.pointer (some ⟨b, 0, none⟩)) ∧ FifoAt w' b nb pb ib N [] ∧ Only NoBlk w w' ∧ ∀ k, FS b nb pb ib k → w.heap.size ≤ k

set_option maxHeartbeats 1600000 in
theorem FNew_n (N : Int) (n : Nat) (hN : N.toNat = n) (h0 : 1 ≤ N) (h1 : N ≤ 1024) (n0 : 1 ≤ n) (n1 : n ≤ 1024) (most : Int) (w : World) (hc : most < 1 ∧ N = 1 ∨ 1024 < most ∧ N = 1024 ∨ 1 ≤ most ∧ most ≤ 1024 ∧ N = most) :
    Calls Try.prog 47 #[.int .i64 most] w (NewFifo n w) := by
  have hmi := mk_ints N (by omega) (by omega)
  have hmb := mk_bools N (by omega) (by omega)
  rw [hN] at hmi hmb
  rcases hc with ⟨h, rfl⟩ | ⟨h, rfl⟩ | ⟨h, h', rfl⟩
  · have H := hide hN
    clear hN
    go_enter Try.func47, Try.ntmps47
    go_wp2
    go_region
    all_goals go_wp2
    all_goals go_ret
    all_goals
      refine ⟨_, _, _, _, rfl, FifoAt.drew ⟨emptyC n, ⟨Blk.new' (by simp), ?_, ?_, ?_, by omega, by omega, by omega, by omega, by omega, by omega⟩, emptyC_rep n (by omega) (by omega)⟩, (((((Only.refl NoBlk w).alloc _).alloc _).alloc _).alloc _).drew, ?_⟩
      · first | exact (((Blk.new w _ _).alloc _).alloc _).alloc _ | (refine ((Blk.new' ?_).alloc _).alloc _; (simp; done)) | (refine (Blk.new' ?_).alloc _; (simp; done))
      · first | exact (((Blk.new w _ _).alloc _).alloc _).alloc _ | (refine ((Blk.new' ?_).alloc _).alloc _; (simp; done)) | (refine (Blk.new' ?_).alloc _; (simp; done))
      · first | exact (((Blk.new w _ _).alloc _).alloc _).alloc _ | (refine ((Blk.new' ?_).alloc _).alloc _; (simp; done)) | (refine (Blk.new' ?_).alloc _; (simp; done))
      · intro k hk; rcases hk with rfl | rfl | rfl | rfl <;> omega
  · have H := hide hN
    clear hN
    go_enter Try.func47, Try.ntmps47
    go_wp2
    go_region
    all_goals go_wp2
    all_goals go_ret
    all_goals
      refine ⟨_, _, _, _, rfl, FifoAt.drew ⟨emptyC n, ⟨Blk.new' (by simp), ?_, ?_, ?_, by omega, by omega, by omega, by omega, by omega, by omega⟩, emptyC_rep n (by omega) (by omega)⟩, (((((Only.refl NoBlk w).alloc _).alloc _).alloc _).alloc _).drew, ?_⟩
      · first | exact (((Blk.new w _ _).alloc _).alloc _).alloc _ | (refine ((Blk.new' ?_).alloc _).alloc _; (simp; done)) | (refine (Blk.new' ?_).alloc _; (simp; done))
      · first | exact (((Blk.new w _ _).alloc _).alloc _).alloc _ | (refine ((Blk.new' ?_).alloc _).alloc _; (simp; done)) | (refine (Blk.new' ?_).alloc _; (simp; done))
      · first | exact (((Blk.new w _ _).alloc _).alloc _).alloc _ | (refine ((Blk.new' ?_).alloc _).alloc _; (simp; done)) | (refine (Blk.new' ?_).alloc _; (simp; done))
      · intro k hk; rcases hk with rfl | rfl | rfl | rfl <;> omega
  · have H := hide hN
    clear hN
    go_enter Try.func47, Try.ntmps47
    go_wp2
    go_region
    all_goals go_wp2
    all_goals go_ret
    all_goals
      refine ⟨_, _, _, _, rfl, FifoAt.drew ⟨emptyC n, ⟨Blk.new' (by simp), ?_, ?_, ?_, by omega, by omega, by omega, by omega, by omega, by omega⟩, emptyC_rep n (by omega) (by omega)⟩, (((((Only.refl NoBlk w).alloc _).alloc _).alloc _).alloc _).drew, ?_⟩
      · first | exact (((Blk.new w _ _).alloc _).alloc _).alloc _ | (refine ((Blk.new' ?_).alloc _).alloc _; (simp; done)) | (refine (Blk.new' ?_).alloc _; (simp; done))
      · first | exact (((Blk.new w _ _).alloc _).alloc _).alloc _ | (refine ((Blk.new' ?_).alloc _).alloc _; (simp; done)) | (refine (Blk.new' ?_).alloc _; (simp; done))
      · first | exact (((Blk.new w _ _).alloc _).alloc _).alloc _ | (refine ((Blk.new' ?_).alloc _).alloc _; (simp; done)) | (refine (Blk.new' ?_).alloc _; (simp; done))
      · intro k hk; rcases hk with rfl | rfl | rfl | rfl <;> omega
theorem FNew_c (most : Int) (w : World) : Calls Try.prog 47 #[.int .i64 most] w (NewFifo (clip most 1 1024).toNat w) := by
  have h0 : 1 ≤ clip most 1 1024 := by unfold clip; omega
  have h1 : clip most 1 1024 ≤ 1024 := by unfold clip; omega
  refine FNew_n (clip most 1 1024) _ rfl h0 h1 (by omega) (by omega) most w ?_
  unfold clip; omega
end Go.Proofs.Ytmkbhejbbhikcaa
