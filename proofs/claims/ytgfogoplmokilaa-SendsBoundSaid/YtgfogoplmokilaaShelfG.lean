/- math/bits.Mul64: the contract of the library laid at this program, in plain words (printed by lay-plain.mjs). Conditions: none. -/
import Derived.Test.YtgfogoplmokilaaGraceA
import Derived.Ground.NamesProg
import Derived.Shelf.Bits.Mul64
namespace Go.Proofs
open Go.Shelf
def Try.laysMul64_ren : Go.Shelf.Ren := ⟨fun | 264 => 93 | n => n, fun | 53 => 115 | 46 => 113 | n => n, fun | n => n⟩
theorem Try.laysMul64 : Go.Proofs.Lays.n264 Try.prog Try.laysMul64_ren := {
  mixed := by kernel_rfl
  f264 := Try.func93.trans (congrArg some (by kernel_rfl))
  t46 := Try.underlying113
  a46 := Try.isAgg113
  z46 := Try.sizeOf113
  v46 := Try.zeroValue113
  t53 := Try.underlying115
  a53 := Try.isAgg115
  z53 := Try.sizeOf115
  v53 := Try.zeroValue115 }
end Go.Proofs
