/- lives of layer 38. Conditions: those of each theorem. -/
import Derived.Test.YthnjebpbokmemaaDoorLed5
namespace Go.Proofs.YthnjebpbokmemaaDoor
open Go.RowKit
set_option linter.unusedVariables false

def litH : List Ev := [⟨1, 0, 0, 3, ⟨#[]⟩, 0, st0⟩, ⟨2, 0, 0, 0, ⟨#[]⟩, 0, st0⟩, ⟨4, 0, 2, 0, ⟨#[111, 107]⟩, 0, st0⟩, ⟨8, 0, 0, 0, ⟨#[]⟩, 0, ⟨3, 0, 2, 0, 2, 0⟩⟩, ⟨8, 0, 0, 0, ⟨#[]⟩, 0, ⟨7, 1, 9, 0, 0, 1⟩⟩]
theorem litH_rows : rowsL litH = [⟨0, 0, 3, 2, 0, 1, 2, 0, 1, 7⟩] := by rfl
theorem ownT_own' {a : Int} (h : 0 ≤ a) : ownT a = a := by unfold ownT; rw [if_neg (by omega)]
theorem it_small (n : Nat) (h : n < 10) : Lib.itoa (n : Int) = [digB n] := by rw [itoa_nn (by omega), Int.toNat_natCast, dec_one h]
theorem tk_small (n : Nat) (h : n < 10) : tickT (n : Int) = [digB n] := by
  unfold tickT
  rw [if_neg (by omega), ownT_own' (by omega), it_small n h]
theorem litH_table : tableT (rowsL litH) = [48, 32, 48, 32, 51, 32, 50, 32, 48, 32, 49, 32, 50, 32, 48, 32, 100, 111, 110, 101, 32, 55, 10] := by
  rw [litH_rows]
  unfold tableT lineT partsT
  rw [List.map_cons, List.map_nil, List.flatten_cons, List.flatten_nil]
  simp only
  rw [show Lib.itoa 0 = [digB 0] from it_small 0 (by decide), show tickT 3 = [digB 3] from tk_small 3 (by decide), show Lib.itoa 2 = [digB 2] from it_small 2 (by decide), show Lib.itoa 1 = [digB 1] from it_small 1 (by decide), show tickT 7 = [digB 7] from tk_small 7 (by decide)]
  rfl
set_option maxRecDepth 100000 in
set_option maxHeartbeats 1600000 in
theorem lives38_c (w : World) (ht : Tab w) : Calls Tryd.prog 8 #[] w fun e w' => e = .returned (.bool true) ∧ Below w.heap.size w w' := by
  obtain ⟨W, hW⟩ : ∃ W, W = w.alloc (.cells (flat encEv litH).toArray 48) := ⟨_, rfl⟩
  have hL : Below w.heap.size w W := by rw [hW]; exact below_alloc _ _
  have hr : Rd W NoBlk (some ⟨w.heap.size, 0, none⟩) (flat encEv litH) := by rw [hW]; exact rd_blkN (Blk.new' rfl) (fun h => h)
  have hx : ∀ x ∈ litH, x.s.size ≤ 100 := by
    intro x hx
    simp [litH] at hx
    rcases hx with rfl | rfl | rfl | rfl | rfl <;> decide
  have hok : ∀ x ∈ litH, EvOk x := by
    intro x hx
    simp [litH] at hx
    rcases hx with rfl | rfl | rfl | rfl | rfl
    all_goals exact ⟨⟨by decide, by decide⟩, ⟨by decide, by decide⟩, ⟨by decide, by decide⟩, ⟨by decide, by decide⟩, ⟨by decide, by decide⟩, ⟨⟨by decide, by decide⟩, ⟨by decide, by decide⟩, ⟨by decide, by decide⟩, ⟨by decide, by decide⟩, ⟨by decide, by decide⟩, ⟨by decide, by decide⟩⟩⟩
  have hc := Table_c (some ⟨w.heap.size, 0, none⟩) 5 litH W hr (by decide) hx (by decide) hok (ht.below hL)
  rw [litH_table] at hc
  have HC := hide hc
  have HW := hide hW
  have HL := hide hL
  clear hc hW hL hr hx hok ht
  go_enter Tryd.func8, Tryd.ntmps8
  go_wp2_with fail
  change Calls _ _ _ (w.alloc (.cells (flat encEv litH).toArray 48)) _
  rw [← HW.out]
  refine HC.out.mono ?_
  rintro e w1 ⟨rfl, hb1⟩
  have HB1 := hide (HL.out.trans (hb1.mono HL.out.size))
  clear hb1
  go_wp2_with fail
  go_ret
  exact ⟨rfl, HB1.out⟩
end Go.Proofs.YthnjebpbokmemaaDoor
