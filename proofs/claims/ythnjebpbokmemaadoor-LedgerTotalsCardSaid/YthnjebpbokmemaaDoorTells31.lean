/- Same of two lists of events that read the same; Clocks. Conditions: those of each theorem. -/
import Derived.Test.YthnjebpbokmemaaDoorSame31
namespace Go.Proofs.YthnjebpbokmemaaDoor
open Go.RowKit
set_option linter.unusedVariables false

/-- the ticks of the rounds -/
def clocksL (l : List Ev) : List Int := (l.filter (fun x => decide (x.k = 1))).map (·.tick)
abbrev encI (t : Int) : List Value := [.int .i64 t]
theorem Tryd.infoI64 : (Tryd.prog.info? 2).map (fun i => (i.zero, i.size, i.bytes)) = some (some (.int .i64 0), 1, 8) := by kernel_rfl
theorem clocks_succ (l : List Ev) (k : Nat) (h : k < l.length) : clocksL (l.take (k + 1)) = clocksL (l.take k) ++ (if (evAt l k).k = 1 then [(evAt l k).tick] else []) := by
  have e : evAt l k = l[k] := by simp [evAt, List.getD, h]
  unfold clocksL
  rw [List.take_succ_eq_append_getElem h, List.filter_append, List.map_append, e]
  by_cases hp : l[k].k = 1 <;> simp [hp]
theorem clocks_le (l : List Ev) : (clocksL l).length ≤ l.length := by
  unfold clocksL
  rw [List.length_map]; exact List.length_filter_le _ _
end Go.Proofs.YthnjebpbokmemaaDoor
