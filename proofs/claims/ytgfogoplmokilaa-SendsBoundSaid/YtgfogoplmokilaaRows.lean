/-
  No cell of these rows narrows 'for every input' (looked for: loops, veiled, ifaces, maps, wideKeys, modest, calm, conditions, laid).
  DERIVED. THE GIVEN ROWS OF THIS SEAT. 4 by the template 'for every input the law returns true; each argument reads behind the call as it read before'; 0 by the template 'total and deterministic' (their statements: YtgfogoplmokilaaTotals.lean).
  GIVEN WITH THE SEED: the statements are not yours to turn. If you find one false, say at which input.
  Laid BY PROGRAM, IN A SANDBOX (cutbox-rows.mjs): the forced cells as the released guide's own fill.sh prints them over the translation 419af02b6b3789a2… (all of the seat's roots in one cut). By AI agents, Wed Nov 11 2026. No macro, syntax, notation, axiom, sorry.
-/
import Derived.Test.YtgfogoplmokilaaChecked
import GoSem.Claim
import GoSem.ClaimJoined
import GoSem.ClaimMapViews
import Derived.JoinedTies
import Derived.KernelRfl
namespace Go.Proofs.Ytgfogoplmokilaa
/- THE CELL 'sum', in the pinned program and in every row, IS THE sha256 OF THE DUMP (.gsa) THAT YtgfogoplmokilaaProg.lean LOADS. Nothing in Lean hashes anything: it is a label: what it is worth is what the hold of that sum in a sandbox is worth. -/
noncomputable def Try.pinned : Pinned := { name := "ytgfogoplmokilaa", sum := "419af02b6b3789a25ee77a12a46bdca1a78164dbe0c66cfd4e6ffef848423795", checked := Try.checked }
namespace Rows
def none {H : Type} : Left H := { results := [], args := [] }

/-- 'reparteelaw31.ProjTells': WHATEVER THE INPUT: true; the input reads as it did. -/
def projTellsSpec : ChangeSpec := { name := "projTells", fn := fun _ => fun
  | [d1, d2] => { results := [.lit (.bool true)], args := [d1, d2] }
  | _ => none }
def projTellsRow : OpenClaim := { program := "ytgfogoplmokilaa", sum := "419af02b6b3789a25ee77a12a46bdca1a78164dbe0c66cfd4e6ffef848423795", func := "repartee/reparteelaw31.ProjTells", spec := "projTells", unfollowed := true, recurses := true, apart := false }
def ProjTellsSaid : Prop := projTellsRow.holds Try.pinned (OpenSpec.ofChange projTellsSpec)

/-- ITS FALSE NEIGHBOUR: 'it returns false'. Refute it at one input. -/
def projTellsWrong : ChangeSpec := { name := "projTells", fn := fun _ => fun
  | [d1, d2] => { results := [.lit (.bool false)], args := [d1, d2] }
  | _ => none }
def ProjTellsWrongFalsely : Prop := projTellsRow.holds Try.pinned (OpenSpec.ofChange projTellsWrong)

/-- 'reparteelaw37.GraceTells': WHATEVER THE INPUT: true; the input reads as it did. -/
def graceTellsSpec : ChangeSpec := { name := "graceTells", fn := fun _ => fun
  | [d1, d2, d3] => { results := [.lit (.bool true)], args := [d1, d2, d3] }
  | _ => none }
def graceTellsRow : OpenClaim := { program := "ytgfogoplmokilaa", sum := "419af02b6b3789a25ee77a12a46bdca1a78164dbe0c66cfd4e6ffef848423795", func := "repartee/reparteelaw37.GraceTells", spec := "graceTells", unfollowed := true, recurses := true, apart := false }
def GraceTellsSaid : Prop := graceTellsRow.holds Try.pinned (OpenSpec.ofChange graceTellsSpec)

/-- ITS FALSE NEIGHBOUR: 'it returns false'. Refute it at one input. -/
def graceTellsWrong : ChangeSpec := { name := "graceTells", fn := fun _ => fun
  | [d1, d2, d3] => { results := [.lit (.bool false)], args := [d1, d2, d3] }
  | _ => none }
def GraceTellsWrongFalsely : Prop := graceTellsRow.holds Try.pinned (OpenSpec.ofChange graceTellsWrong)

/-- 'reparteelaw41.PromptRounds': WHATEVER THE INPUT: true; the input reads as it did. -/
def promptRoundsSpec : ChangeSpec := { name := "promptRounds", fn := fun _ => fun
  | [d] => { results := [.lit (.bool true)], args := [d] }
  | _ => none }
def promptRoundsRow : OpenClaim := { program := "ytgfogoplmokilaa", sum := "419af02b6b3789a25ee77a12a46bdca1a78164dbe0c66cfd4e6ffef848423795", func := "repartee/reparteelaw41.PromptRounds", spec := "promptRounds", unfollowed := true, recurses := true, apart := false }
def PromptRoundsSaid : Prop := promptRoundsRow.holds Try.pinned (OpenSpec.ofChange promptRoundsSpec)

/-- ITS FALSE NEIGHBOUR: 'it returns false'. Refute it at one input. -/
def promptRoundsWrong : ChangeSpec := { name := "promptRounds", fn := fun _ => fun
  | [d] => { results := [.lit (.bool false)], args := [d] }
  | _ => none }
def PromptRoundsWrongFalsely : Prop := promptRoundsRow.holds Try.pinned (OpenSpec.ofChange promptRoundsWrong)

/-- 'reparteelaw36.SendsBound': WHATEVER THE INPUT: true; the input reads as it did. -/
def sendsBoundSpec : ChangeSpec := { name := "sendsBound", fn := fun _ => fun
  | [d1, d2, d3] => { results := [.lit (.bool true)], args := [d1, d2, d3] }
  | _ => none }
def sendsBoundRow : OpenClaim := { program := "ytgfogoplmokilaa", sum := "419af02b6b3789a25ee77a12a46bdca1a78164dbe0c66cfd4e6ffef848423795", func := "repartee/reparteelaw36.SendsBound", spec := "sendsBound", unfollowed := true, recurses := true, apart := false }
def SendsBoundSaid : Prop := sendsBoundRow.holds Try.pinned (OpenSpec.ofChange sendsBoundSpec)

/-- ITS FALSE NEIGHBOUR: 'it returns false'. Refute it at one input. -/
def sendsBoundWrong : ChangeSpec := { name := "sendsBound", fn := fun _ => fun
  | [d1, d2, d3] => { results := [.lit (.bool false)], args := [d1, d2, d3] }
  | _ => none }
def SendsBoundWrongFalsely : Prop := sendsBoundRow.holds Try.pinned (OpenSpec.ofChange sendsBoundWrong)

/- THE SECOND FORM. 'bulk': how many values and letters a reading holds, each counted each time it is reached (what is shared counts as often as it is met; a slice's spare places count too). A statement '..UptoSaid' is the law's where the arguments, and the package variables that the reading takes, are together of bulk at most 1048576: NARROWER than '..Said'. Prove '..Said' where nothing that the law and all that it calls make is longer than what came in: it says more and counts as full. Else prove '..UptoSaid'. A law counts once. -/
mutual
def uptoBulk {H : Type} : DataW H → Nat
  | .lit (.string bytes) => bytes.length + 1
  | .lit _ => 1
  | .nil => 1
  | .ptr d => uptoBulk d + 1
  | .slice elems spare => uptoBulkAll elems + uptoBulkAll spare + 1
  | .agg parts => uptoBulkAll parts + 1
  | .iface _ d => uptoBulk d + 1
  | .map entries => uptoBulkEntries entries + 1
  | .held _ => 1
def uptoBulkAll {H : Type} : List (DataW H) → Nat
  | [] => 0
  | d :: r => uptoBulk d + uptoBulkAll r
def uptoBulkEntries {H : Type} : List (Lit × DataW H) → Nat
  | [] => 0
  | x :: r => uptoBulkEntry x + uptoBulkEntries r
def uptoBulkEntry {H : Type} : Lit × DataW H → Nat
  | (.string bytes, d) => bytes.length + uptoBulk d + 1
  | (_, d) => uptoBulk d + 1
 end
def uptoSmall : (H : Type) → List (DataW H) → Bool := fun _ ds => decide (uptoBulkAll ds ≤ 1048576)
def OpenSpec.upto (s : _root_.Go.ChangeSpec) : _root_.Go.OpenSpec := { _root_.Go.OpenSpec.ofChange s with cond := some uptoSmall }

/-- 'reparteelaw31.ProjTells', WHERE WHAT IT READS IS OF BULK AT MOST 1048576: true; the input reads as it did. -/
def projTellsUptoRow : OpenClaim := { program := "ytgfogoplmokilaa", sum := "419af02b6b3789a25ee77a12a46bdca1a78164dbe0c66cfd4e6ffef848423795", func := "repartee/reparteelaw31.ProjTells", spec := "projTells", unfollowed := true, recurses := true, apart := false, narrowed := true }
def ProjTellsUptoSaid : Prop := projTellsUptoRow.holds Try.pinned (OpenSpec.upto projTellsSpec)

/-- 'reparteelaw37.GraceTells', WHERE WHAT IT READS IS OF BULK AT MOST 1048576: true; the input reads as it did. -/
def graceTellsUptoRow : OpenClaim := { program := "ytgfogoplmokilaa", sum := "419af02b6b3789a25ee77a12a46bdca1a78164dbe0c66cfd4e6ffef848423795", func := "repartee/reparteelaw37.GraceTells", spec := "graceTells", unfollowed := true, recurses := true, apart := false, narrowed := true }
def GraceTellsUptoSaid : Prop := graceTellsUptoRow.holds Try.pinned (OpenSpec.upto graceTellsSpec)

/-- 'reparteelaw41.PromptRounds', WHERE WHAT IT READS IS OF BULK AT MOST 1048576: true; the input reads as it did. -/
def promptRoundsUptoRow : OpenClaim := { program := "ytgfogoplmokilaa", sum := "419af02b6b3789a25ee77a12a46bdca1a78164dbe0c66cfd4e6ffef848423795", func := "repartee/reparteelaw41.PromptRounds", spec := "promptRounds", unfollowed := true, recurses := true, apart := false, narrowed := true }
def PromptRoundsUptoSaid : Prop := promptRoundsUptoRow.holds Try.pinned (OpenSpec.upto promptRoundsSpec)

/-- 'reparteelaw36.SendsBound', WHERE WHAT IT READS IS OF BULK AT MOST 1048576: true; the input reads as it did. -/
def sendsBoundUptoRow : OpenClaim := { program := "ytgfogoplmokilaa", sum := "419af02b6b3789a25ee77a12a46bdca1a78164dbe0c66cfd4e6ffef848423795", func := "repartee/reparteelaw36.SendsBound", spec := "sendsBound", unfollowed := true, recurses := true, apart := false, narrowed := true }
def SendsBoundUptoSaid : Prop := sendsBoundUptoRow.holds Try.pinned (OpenSpec.upto sendsBoundSpec)

end Rows
end Go.Proofs.Ytgfogoplmokilaa
