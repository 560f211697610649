/-
  No cell of these rows narrows 'for every input' (looked for: loops, veiled, ifaces, maps, wideKeys, modest, calm, conditions, laid).
  DERIVED. THE GIVEN ROWS OF THIS SEAT. 5 by the template 'for every input the law returns true; each argument reads behind the call as it read before'; 0 by the template 'total and deterministic' (their statements: YthnjebpbokmemaaTotals.lean).
  GIVEN WITH THE SEED: the statements are not yours to turn. If you find one false, say at which input.
  Laid BY PROGRAM, IN A SANDBOX (cutbox-rows.mjs): the forced cells as the released guide's own fill.sh prints them over the translation b8ccc81eb9899494… (all of the seat's roots in one cut). By AI agents, Wed Nov 11 2026. No macro, syntax, notation, axiom, sorry.
-/
import Derived.Test.YthnjebpbokmemaaChecked
import GoSem.Claim
import GoSem.ClaimJoined
import GoSem.ClaimMapViews
import Derived.JoinedTies
import Derived.KernelRfl
namespace Go.Proofs.Ythnjebpbokmemaa
/- THE CELL 'sum', in the pinned program and in every row, IS THE sha256 OF THE DUMP (.gsa) THAT YthnjebpbokmemaaProg.lean LOADS. Nothing in Lean hashes anything: it is a label: what it is worth is what the hold of that sum in a sandbox is worth. -/
noncomputable def Try.pinned : Pinned := { name := "ythnjebpbokmemaa", sum := "b8ccc81eb9899494458ef995818178ccb554c8c9042d608e4135878bc63c0faf", checked := Try.checked }
namespace Rows
def none {H : Type} : Left H := { results := [], args := [] }

/-- 'reparteelaw31.ProjOther': WHATEVER THE INPUT: true; the input reads as it did. -/
def projOtherSpec : ChangeSpec := { name := "projOther", fn := fun _ => fun
  | [d1, d2] => { results := [.lit (.bool true)], args := [d1, d2] }
  | _ => none }
def projOtherRow : OpenClaim := { program := "ythnjebpbokmemaa", sum := "b8ccc81eb9899494458ef995818178ccb554c8c9042d608e4135878bc63c0faf", func := "repartee/reparteelaw31.ProjOther", spec := "projOther", unfollowed := true, recurses := true, apart := false }
def ProjOtherSaid : Prop := projOtherRow.holds Try.pinned (OpenSpec.ofChange projOtherSpec)

/-- ITS FALSE NEIGHBOUR: 'it returns false'. Refute it at one input. -/
def projOtherWrong : ChangeSpec := { name := "projOther", fn := fun _ => fun
  | [d1, d2] => { results := [.lit (.bool false)], args := [d1, d2] }
  | _ => none }
def ProjOtherWrongFalsely : Prop := projOtherRow.holds Try.pinned (OpenSpec.ofChange projOtherWrong)

/-- 'reparteelaw31.ProjTells': WHATEVER THE INPUT: true; the input reads as it did. -/
def projTellsSpec : ChangeSpec := { name := "projTells", fn := fun _ => fun
  | [d1, d2] => { results := [.lit (.bool true)], args := [d1, d2] }
  | _ => none }
def projTellsRow : OpenClaim := { program := "ythnjebpbokmemaa", sum := "b8ccc81eb9899494458ef995818178ccb554c8c9042d608e4135878bc63c0faf", func := "repartee/reparteelaw31.ProjTells", spec := "projTells", unfollowed := true, recurses := true, apart := false }
def ProjTellsSaid : Prop := projTellsRow.holds Try.pinned (OpenSpec.ofChange projTellsSpec)

/-- ITS FALSE NEIGHBOUR: 'it returns false'. Refute it at one input. -/
def projTellsWrong : ChangeSpec := { name := "projTells", fn := fun _ => fun
  | [d1, d2] => { results := [.lit (.bool false)], args := [d1, d2] }
  | _ => none }
def ProjTellsWrongFalsely : Prop := projTellsRow.holds Try.pinned (OpenSpec.ofChange projTellsWrong)

/-- 'reparteelaw37.GraceTells': WHATEVER THE INPUT: true; the input reads as it did. -/
def graceTellsSpec : ChangeSpec := { name := "graceTells", fn := fun _ => fun
  | [d1, d2, d3] => { results := [.lit (.bool true)], args := [d1, d2, d3] }
  | _ => none }
def graceTellsRow : OpenClaim := { program := "ythnjebpbokmemaa", sum := "b8ccc81eb9899494458ef995818178ccb554c8c9042d608e4135878bc63c0faf", func := "repartee/reparteelaw37.GraceTells", spec := "graceTells", unfollowed := true, recurses := true, apart := false }
def GraceTellsSaid : Prop := graceTellsRow.holds Try.pinned (OpenSpec.ofChange graceTellsSpec)

/-- ITS FALSE NEIGHBOUR: 'it returns false'. Refute it at one input. -/
def graceTellsWrong : ChangeSpec := { name := "graceTells", fn := fun _ => fun
  | [d1, d2, d3] => { results := [.lit (.bool false)], args := [d1, d2, d3] }
  | _ => none }
def GraceTellsWrongFalsely : Prop := graceTellsRow.holds Try.pinned (OpenSpec.ofChange graceTellsWrong)

/-- 'reparteelaw37.GraceJudges': WHATEVER THE INPUT: true; the input reads as it did. -/
def graceJudgesSpec : ChangeSpec := { name := "graceJudges", fn := fun _ => fun
  | [d1, d2] => { results := [.lit (.bool true)], args := [d1, d2] }
  | _ => none }
def graceJudgesRow : OpenClaim := { program := "ythnjebpbokmemaa", sum := "b8ccc81eb9899494458ef995818178ccb554c8c9042d608e4135878bc63c0faf", func := "repartee/reparteelaw37.GraceJudges", spec := "graceJudges", unfollowed := true, recurses := true, apart := false }
def GraceJudgesSaid : Prop := graceJudgesRow.holds Try.pinned (OpenSpec.ofChange graceJudgesSpec)

/-- ITS FALSE NEIGHBOUR: 'it returns false'. Refute it at one input. -/
def graceJudgesWrong : ChangeSpec := { name := "graceJudges", fn := fun _ => fun
  | [d1, d2] => { results := [.lit (.bool false)], args := [d1, d2] }
  | _ => none }
def GraceJudgesWrongFalsely : Prop := graceJudgesRow.holds Try.pinned (OpenSpec.ofChange graceJudgesWrong)

/-- 'reparteelaw41.PromptRounds': WHATEVER THE INPUT: true; the input reads as it did. -/
def promptRoundsSpec : ChangeSpec := { name := "promptRounds", fn := fun _ => fun
  | [d] => { results := [.lit (.bool true)], args := [d] }
  | _ => none }
def promptRoundsRow : OpenClaim := { program := "ythnjebpbokmemaa", sum := "b8ccc81eb9899494458ef995818178ccb554c8c9042d608e4135878bc63c0faf", func := "repartee/reparteelaw41.PromptRounds", spec := "promptRounds", unfollowed := true, recurses := true, apart := false }
def PromptRoundsSaid : Prop := promptRoundsRow.holds Try.pinned (OpenSpec.ofChange promptRoundsSpec)

/-- ITS FALSE NEIGHBOUR: 'it returns false'. Refute it at one input. -/
def promptRoundsWrong : ChangeSpec := { name := "promptRounds", fn := fun _ => fun
  | [d] => { results := [.lit (.bool false)], args := [d] }
  | _ => none }
def PromptRoundsWrongFalsely : Prop := promptRoundsRow.holds Try.pinned (OpenSpec.ofChange promptRoundsWrong)

/- THE SECOND FORM. 'bulk': how many values and letters a reading holds, each counted each time it is reached (what is shared counts as often as it is met; a slice's spare places count too). A statement '..UptoSaid' is the law's where the arguments, and the package variables that the reading takes, are together of bulk at most 1048576: NARROWER than '..Said'. Prove '..Said' where nothing that the law and all that it calls make is longer than what came in: it says more and counts as full. Else prove '..UptoSaid'. A law counts once. -/
mutual
def uptoBulk {H : Type} : DataW H → Nat
  | .lit (.string bytes) => bytes.length + 1
  | .lit _ => 1
  | .nil => 1
  | .ptr d => uptoBulk d + 1
  | .slice elems spare => uptoBulkAll elems + uptoBulkAll spare + 1
  | .agg parts => uptoBulkAll parts + 1
  | .iface _ d => uptoBulk d + 1
  | .map entries => uptoBulkEntries entries + 1
  | .held _ => 1
def uptoBulkAll {H : Type} : List (DataW H) → Nat
  | [] => 0
  | d :: r => uptoBulk d + uptoBulkAll r
def uptoBulkEntries {H : Type} : List (Lit × DataW H) → Nat
  | [] => 0
  | x :: r => uptoBulkEntry x + uptoBulkEntries r
def uptoBulkEntry {H : Type} : Lit × DataW H → Nat
  | (.string bytes, d) => bytes.length + uptoBulk d + 1
  | (_, d) => uptoBulk d + 1
 end
def uptoSmall : (H : Type) → List (DataW H) → Bool := fun _ ds => decide (uptoBulkAll ds ≤ 1048576)
def OpenSpec.upto (s : _root_.Go.ChangeSpec) : _root_.Go.OpenSpec := { _root_.Go.OpenSpec.ofChange s with cond := some uptoSmall }

/-- 'reparteelaw31.ProjOther', WHERE WHAT IT READS IS OF BULK AT MOST 1048576: true; the input reads as it did. -/
def projOtherUptoRow : OpenClaim := { program := "ythnjebpbokmemaa", sum := "b8ccc81eb9899494458ef995818178ccb554c8c9042d608e4135878bc63c0faf", func := "repartee/reparteelaw31.ProjOther", spec := "projOther", unfollowed := true, recurses := true, apart := false, narrowed := true }
def ProjOtherUptoSaid : Prop := projOtherUptoRow.holds Try.pinned (OpenSpec.upto projOtherSpec)

/-- 'reparteelaw31.ProjTells', WHERE WHAT IT READS IS OF BULK AT MOST 1048576: true; the input reads as it did. -/
def projTellsUptoRow : OpenClaim := { program := "ythnjebpbokmemaa", sum := "b8ccc81eb9899494458ef995818178ccb554c8c9042d608e4135878bc63c0faf", func := "repartee/reparteelaw31.ProjTells", spec := "projTells", unfollowed := true, recurses := true, apart := false, narrowed := true }
def ProjTellsUptoSaid : Prop := projTellsUptoRow.holds Try.pinned (OpenSpec.upto projTellsSpec)

/-- 'reparteelaw37.GraceTells', WHERE WHAT IT READS IS OF BULK AT MOST 1048576: true; the input reads as it did. -/
def graceTellsUptoRow : OpenClaim := { program := "ythnjebpbokmemaa", sum := "b8ccc81eb9899494458ef995818178ccb554c8c9042d608e4135878bc63c0faf", func := "repartee/reparteelaw37.GraceTells", spec := "graceTells", unfollowed := true, recurses := true, apart := false, narrowed := true }
def GraceTellsUptoSaid : Prop := graceTellsUptoRow.holds Try.pinned (OpenSpec.upto graceTellsSpec)

/-- 'reparteelaw37.GraceJudges', WHERE WHAT IT READS IS OF BULK AT MOST 1048576: true; the input reads as it did. -/
def graceJudgesUptoRow : OpenClaim := { program := "ythnjebpbokmemaa", sum := "b8ccc81eb9899494458ef995818178ccb554c8c9042d608e4135878bc63c0faf", func := "repartee/reparteelaw37.GraceJudges", spec := "graceJudges", unfollowed := true, recurses := true, apart := false, narrowed := true }
def GraceJudgesUptoSaid : Prop := graceJudgesUptoRow.holds Try.pinned (OpenSpec.upto graceJudgesSpec)

/-- 'reparteelaw41.PromptRounds', WHERE WHAT IT READS IS OF BULK AT MOST 1048576: true; the input reads as it did. -/
def promptRoundsUptoRow : OpenClaim := { program := "ythnjebpbokmemaa", sum := "b8ccc81eb9899494458ef995818178ccb554c8c9042d608e4135878bc63c0faf", func := "repartee/reparteelaw41.PromptRounds", spec := "promptRounds", unfollowed := true, recurses := true, apart := false, narrowed := true }
def PromptRoundsUptoSaid : Prop := promptRoundsUptoRow.holds Try.pinned (OpenSpec.upto promptRoundsSpec)

end Rows
end Go.Proofs.Ythnjebpbokmemaa
