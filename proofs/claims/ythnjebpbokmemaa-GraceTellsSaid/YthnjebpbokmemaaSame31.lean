/- same of layer 31: two lives that read the same. Conditions: those of each theorem. -/
import Derived.Test.YthnjebpbokmemaaLives31
namespace Go.Proofs.Ythnjebpbokmemaa
open Go.RowKit
set_option linter.unusedVariables false

set_option maxRecDepth 100000 in
set_option maxHeartbeats 3200000 in
/-- what is told of one, and what the page says, are the same where both read the same -/
theorem same31_c (i s t st : Int) (rd tk : ByteArray) (eof : Bool) (L : List Inp) (S : List Stp) (A1 A2 B1 B2 C : Option Addr) (a1 a2 b1 b2 cl cc : Nat) (w : World)
    (r1 : Rd w NoBlk A1 (flat encInp L)) (r2 : Rd w NoBlk A2 (flat encInp L)) (q1 : Rd w NoBlk B1 (flat encStp S)) (q2 : Rd w NoBlk B2 (flat encStp S)) (hL : L.length ≤ 100000) (hS : S.length ≤ 100000) :
    Calls Try.prog 14 #[.agg #[.int .i64 i, .int .i64 s, .int .i64 t, .slice A1 L.length a1, .slice B1 S.length b1, .string rd, .string tk, .bool eof, .int .i64 st],
      .agg #[.int .i64 i, .int .i64 s, .int .i64 t, .slice A2 L.length a2, .slice C cl cc, .slice B2 S.length b2, .string rd, .string tk, .bool eof, .int .i64 st]] w fun e w' => e = .returned (.bool true) ∧ Below w.heap.size w w' := by
  obtain ⟨W, hW⟩ : ∃ W, W = (w.alloc (.cells #[.int .i64 i, .int .i64 s, .int .i64 t, .slice A1 L.length a1, .slice B1 S.length b1, .string rd, .string tk, .bool eof, .int .i64 st] 32)).alloc (.cells #[.int .i64 i, .int .i64 s, .int .i64 t, .slice A2 L.length a2, .slice C cl cc, .slice B2 S.length b2, .string rd, .string tk, .bool eof, .int .i64 st] 41) := ⟨_, rfl⟩
  have lW : Below w.heap.size w W := by rw [hW]; exact (below_alloc _ _).alloc (by simp) _
  have x4 : W.cell? ⟨w.heap.size, 4, none⟩ = some (.slice B1 S.length b1) := by
    have b1 := ((Blk.new w 32 #[.int .i64 i, .int .i64 s, .int .i64 t, .slice A1 L.length a1, .slice B1 S.length b1, .string rd, .string tk, .bool eof, .int .i64 st]).alloc (.cells #[.int .i64 i, .int .i64 s, .int .i64 t, .slice A2 L.length a2, .slice C cl cc, .slice B2 S.length b2, .string rd, .string tk, .bool eof, .int .i64 st] 41)).cell 4
    rw [← hW] at b1
    exact b1
  have x5 : W.cell? ⟨w.heap.size + 1, 5, none⟩ = some (.slice B2 S.length b2) := by
    have b1 := (Blk.new (w.alloc (.cells #[.int .i64 i, .int .i64 s, .int .i64 t, .slice A1 L.length a1, .slice B1 S.length b1, .string rd, .string tk, .bool eof, .int .i64 st] 32)) 41 #[.int .i64 i, .int .i64 s, .int .i64 t, .slice A2 L.length a2, .slice C cl cc, .slice B2 S.length b2, .string rd, .string tk, .bool eof, .int .i64 st]).cell 5
    rw [← hW] at b1
    simpa using b1
  have hI := sameIn_c NoBlk NoBlk A1 A2 a1 a2 L W (r1.below lW) (r2.below lW) hL
  have hQ := hide (fun (w' : World) (hb : Below W.heap.size W w') => sameSteps_c NoBlk NoBlk B1 B2 b1 b2 S w' ((q1.below lW).below hb) ((q2.below lW).below hb) hS)
  have HI := hide hI
  have HW := hide hW
  have LW := hide lW
  have X4 := hide x4
  have X5 := hide x5
  clear r1 r2 q1 q2 hI hW lW x4 x5
  go_enter Try.func14, Try.ntmps14
  go_wp2_with (first
    | (go_at_call 10; rw [← HW.out]; refine HI.out.mono ?_; rintro e w4 ⟨rfl, hb4⟩; have p4 := bkeep hb4 X4.out; have p5 := bkeep hb4 X5.out; have HB4 := hide hb4; clear hb4)
    | (go_at_call 11; refine (hQ.out _ HB4.out).mono ?_; rintro e w5 ⟨rfl, hb5⟩; have HB5 := hide hb5; clear hb5))
  go_ret
  exact ⟨rfl, below_trans (below_trans LW.out HB4.out) HB5.out⟩
end Go.Proofs.Ythnjebpbokmemaa
