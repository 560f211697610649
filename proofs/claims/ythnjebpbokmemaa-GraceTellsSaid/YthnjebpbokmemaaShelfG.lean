/- math/bits.Mul64: the contract of the library laid at this program, in plain words (printed by lay-plain.mjs). Conditions: none. -/
import Derived.Test.YthnjebpbokmemaaGraceA
import Derived.Ground.NamesProg
import Derived.Shelf.Bits.Mul64
namespace Go.Proofs
open Go.Shelf
def Try.laysMul64_ren : Go.Shelf.Ren := ⟨fun | 264 => 87 | n => n, fun | 53 => 107 | 46 => 105 | n => n, fun | n => n⟩
theorem Try.laysMul64 : Go.Proofs.Lays.n264 Try.prog Try.laysMul64_ren := {
  mixed := by kernel_rfl
  f264 := Try.func87.trans (congrArg some (by kernel_rfl))
  t46 := Try.underlying105
  a46 := Try.isAgg105
  z46 := Try.sizeOf105
  v46 := Try.zeroValue105
  t53 := Try.underlying107
  a53 := Try.isAgg107
  z53 := Try.sizeOf107
  v53 := Try.zeroValue107 }
end Go.Proofs
