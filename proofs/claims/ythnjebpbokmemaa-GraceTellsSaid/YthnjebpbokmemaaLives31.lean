/- lives of layer 31. Conditions: those of each theorem. -/
import Derived.Test.YthnjebpbokmemaaSameL
namespace Go.Proofs.Ythnjebpbokmemaa
open Go.RowKit
set_option linter.unusedVariables false

def litL : List Ev := [⟨1, 0, 0, 5, ⟨#[]⟩, 0, st0⟩, ⟨2, 0, 0, 0, ⟨#[]⟩, 0, st0⟩, ⟨4, 0, 2, 0, ⟨#[111, 107]⟩, 0, st0⟩, ⟨8, 0, 0, 0, ⟨#[]⟩, 0, ⟨5, 0, 1, 0, 0, 0⟩⟩]
theorem litL_life : ∃ f, lifeGo 0 0 litL = some f ∧ f.start = 5 ∧ f.ins = [⟨1, ⟨#[111, 107]⟩, 0, 0⟩, ⟨5, ⟨#[]⟩, 0, 5⟩] := by
  refine ⟨⟨0, 5, [⟨1, ⟨#[111, 107]⟩, 0, 0⟩, ⟨5, ⟨#[]⟩, 0, 5⟩], [⟨5, 0, 1, 0, 0, 0⟩], ⟨#[]⟩ ++ ⟨#[111, 107]⟩, ⟨#[]⟩, false, 0⟩, ?_, rfl, rfl⟩
  simp [litL, lifeGo, opens, addL, life0]
set_option maxRecDepth 100000 in
set_option maxHeartbeats 1600000 in
theorem lives31_c (w : World) : Calls Try.prog 12 #[] w fun e w' => e = .returned (.bool true) ∧ Below w.heap.size w w' := by
  obtain ⟨W, hW⟩ : ∃ W, W = w.alloc (.cells (flat encEv litL).toArray 28) := ⟨_, rfl⟩
  have hL : Below w.heap.size w W := by rw [hW]; exact below_alloc _ _
  have hlt : w.heap.size < W.heap.size := by rw [hW]; simp
  have hc := Of_c NoBlk (some ⟨w.heap.size, 0, none⟩) 4 litL 0 W (by rw [hW]; exact rd_blkN (Blk.new' rfl) (fun h => h)) (by decide) (by
    intro x hx
    simp [litL] at hx
    rcases hx with rfl | rfl | rfl | rfl <;> decide) (by decide) (fun k h => h.elim)
  obtain ⟨f, hf, hs, hi⟩ := litL_life
  rw [hf] at hc
  have HC := hide hc
  have HL := hide hL
  have HW := hide hW
  have HS := hide hs
  have HI := hide hi
  clear hc hL hW hf hs hi
  go_enter Try.func12, Try.ntmps12
  go_wp2_with fail
  change Calls _ _ _ (w.alloc (.cells (flat encEv litL).toArray 28)) _
  rw [← HW.out]
  refine HC.out.mono ?_
  rintro e w1 ⟨hb1, A1, c1, A2, c2, r, rfl, rfl, rI, rS, hc1, hc2⟩
  have hb := HL.out.trans (hb1.mono HL.out.size)
  rw [HI.out] at rI
  obtain ⟨b, o, rfl, _, hbl, hcell⟩ := rI.at_ (j := 0) (by decide)
  have p1 : w1.cell? ⟨b, o + 1, none⟩ = some (.string ⟨#[111, 107]⟩) := hcell 1 (by decide)
  have p4 : w1.cell? ⟨b, o + 4, none⟩ = some (.int .i64 5) := hcell 4 (by decide)
  have hlen : f.ins.length = 2 := by rw [HI.out]; rfl
  rw [hlen, HS.out]
  have hne : ¬ b = w1.heap.size := by omega
  have hne2 : ¬ w1.heap.size = b := by omega
  clear hcell rI rS hb1
  have HB := hide hb
  clear hb
  go_wp2_with fail
  go_ret
  exact ⟨rfl, HB.out.alloc (by have := HB.out.size; omega) _⟩
end Go.Proofs.Ythnjebpbokmemaa
