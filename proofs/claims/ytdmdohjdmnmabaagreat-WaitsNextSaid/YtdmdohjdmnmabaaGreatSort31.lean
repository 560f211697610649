/- slices.Sort and slices.Compact at []int: the shelf's contracts, laid at this program. Conditions: those of each theorem. -/
import Derived.Test.YtdmdohjdmnmabaaGreatShelf
import Derived.Ground.NamesProg
import Derived.Ground.Names2Prog
import Derived.Shelf.Sort.Plain
import Derived.Shelf.Slices.CompactI
import Derived.Lib.SortBridge
namespace Go.Proofs.YtdmdohjdmnmabaaGreat
open Go.RowKit Go.Shelf Go.Sort
theorem sortI_c (blk off cap : Nat) (zs : List Int) (w : World) (hH : Holds (Value.int .i64) w blk off zs.toArray) (hblk : blk < w.heap.size) (hsz : zs.length < 4611686018427387904) :
    Calls Tryz.prog 127 #[.slice (some ⟨blk, off, none⟩) zs.length cap] w fun e w' =>
      e = .returned (.tuple #[]) ∧ ∃ n os, w' = grow (putRow (Value.int .i64) (Sort.ahead w n) blk off (zs.mergeSort fun x y => decide (x ≤ y)).toArray) os :=
  Any.slices_Sort_int Tryz.laysSort blk off cap zs w hH hblk hsz
theorem compactI_c (blk off cap : Nat) (zs : List Int) (w : World) (hH : Holds (Value.int .i64) w blk off zs.toArray) (hsz : zs.length ≤ 9223372036854775807) (hcap : zs.length ≤ cap) :
    Calls Tryz.prog 128 #[.slice (some ⟨blk, off, none⟩) zs.length cap] w fun e w' => e = .returned (.slice (some ⟨blk, off, none⟩) (Lib.compact zs).length cap) ∧ ∃ q, w' = putRow (Value.int .i64) (Sort.ahead w q) blk off (Lib.compact zs ++ List.replicate (zs.length - (Lib.compact zs).length) 0).toArray :=
  Any.slices_Compact_int Tryz.laysCompact blk off cap zs w hH hsz hcap
theorem below_putRow {B g off : Nat} {w0 w : World} (h : Below B w0 w) (hg : B ≤ g) (d : Array Int) : Below B w0 (putRow (Value.int .i64) w g off d) := by
  refine ⟨h.os, h.tape, h.output, by simpa using h.size, fun i hi => ?_⟩
  have e : (putRow (Value.int .i64) w g off d).heap[i]? = w.heap[i]? := by
    simp only [putRow, mapBlock, Array.getElem?_modify]
    rw [if_neg (by omega)]
  rw [e]; exact h.block i hi
theorem below_ahead {B : Nat} {w0 w : World} (h : Below B w0 w) (n : Nat) : Below B w0 (Sort.ahead w n) := ⟨h.os, h.tape, h.output, h.size, h.block⟩
theorem below_grow {B : Nat} {w0 w : World} (h : Below B w0 w) (hB : B ≤ w.heap.size) (os : Array Obj) : Below B w0 (grow w os) := by
  refine ⟨h.os, h.tape, h.output, ?_, fun i hi => ?_⟩
  · have := h.size; simp [grow]; omega
  · rw [heap_grow_old w os (by omega)]; exact h.block i hi
end Go.Proofs.YtdmdohjdmnmabaaGreat
