/-
  No cell of these rows narrows 'for every input' (looked for: loops, veiled, ifaces, maps, wideKeys, modest, calm, conditions, laid).
  DERIVED. THE GIVEN ROWS OF THIS SEAT. 5 by the template 'for every input the law returns true; each argument reads behind the call as it read before'; 0 by the template 'total and deterministic' (their statements: YtdmdohjdmnmabaaGreatTotals.lean).
  GIVEN WITH THE SEED: the statements are not yours to turn. If you find one false, say at which input.
  Laid BY PROGRAM, IN A SANDBOX (cutbox-rows.mjs): the forced cells as the released guide's own fill.sh prints them over the translation c7a42d70852eae0a… (all of the seat's roots in one cut). By AI agents, Wed Nov 11 2026. No macro, syntax, notation, axiom, sorry.
-/
import Derived.Test.YtdmdohjdmnmabaaGreatChecked
import GoSem.Claim
import GoSem.ClaimJoined
import GoSem.ClaimMapViews
import Derived.JoinedTies
import Derived.KernelRfl
namespace Go.Proofs.YtdmdohjdmnmabaaGreat
/- THE CELL 'sum', in the pinned program and in every row, IS THE sha256 OF THE DUMP (.gsa) THAT YtdmdohjdmnmabaaGreatProg.lean LOADS. Nothing in Lean hashes anything: it is a label: what it is worth is what the hold of that sum in a sandbox is worth. -/
noncomputable def Tryz.pinned : Pinned := { name := "ytdmdohjdmnmabaagreat", sum := "c7a42d70852eae0aec34dfeb3c320ab51863b3a634ae6655b6306e9f3f2ba728", checked := Tryz.checked }
namespace Rows
def none {H : Type} : Left H := { results := [], args := [] }

/-- 'reparteelaw35.WaitsNext': WHATEVER THE INPUT: true; the input reads as it did. -/
def waitsNextSpec : ChangeSpec := { name := "waitsNext", fn := fun _ => fun
  | [d1, d2] => { results := [.lit (.bool true)], args := [d1, d2] }
  | _ => none }
def waitsNextRow : OpenClaim := { program := "ytdmdohjdmnmabaagreat", sum := "c7a42d70852eae0aec34dfeb3c320ab51863b3a634ae6655b6306e9f3f2ba728", func := "repartee/reparteelaw35.WaitsNext", spec := "waitsNext", unfollowed := true, recurses := true, apart := false }
def WaitsNextSaid : Prop := waitsNextRow.holds Tryz.pinned (OpenSpec.ofChange waitsNextSpec)

/-- ITS FALSE NEIGHBOUR: 'it returns false'. Refute it at one input. -/
def waitsNextWrong : ChangeSpec := { name := "waitsNext", fn := fun _ => fun
  | [d1, d2] => { results := [.lit (.bool false)], args := [d1, d2] }
  | _ => none }
def WaitsNextWrongFalsely : Prop := waitsNextRow.holds Tryz.pinned (OpenSpec.ofChange waitsNextWrong)

/-- 'reparteelaw41.PromptTells': WHATEVER THE INPUT: true; the input reads as it did. -/
def promptTellsSpec : ChangeSpec := { name := "promptTells", fn := fun _ => fun
  | [d1, d2] => { results := [.lit (.bool true)], args := [d1, d2] }
  | _ => none }
def promptTellsRow : OpenClaim := { program := "ytdmdohjdmnmabaagreat", sum := "c7a42d70852eae0aec34dfeb3c320ab51863b3a634ae6655b6306e9f3f2ba728", func := "repartee/reparteelaw41.PromptTells", spec := "promptTells", unfollowed := true, recurses := true, apart := false }
def PromptTellsSaid : Prop := promptTellsRow.holds Tryz.pinned (OpenSpec.ofChange promptTellsSpec)

/-- ITS FALSE NEIGHBOUR: 'it returns false'. Refute it at one input. -/
def promptTellsWrong : ChangeSpec := { name := "promptTells", fn := fun _ => fun
  | [d1, d2] => { results := [.lit (.bool false)], args := [d1, d2] }
  | _ => none }
def PromptTellsWrongFalsely : Prop := promptTellsRow.holds Tryz.pinned (OpenSpec.ofChange promptTellsWrong)

/-- 'reparteelaw35.WaitsTell': WHATEVER THE INPUT: true; the input reads as it did. -/
def waitsTellSpec : ChangeSpec := { name := "waitsTell", fn := fun _ => fun
  | [d1, d2, d3] => { results := [.lit (.bool true)], args := [d1, d2, d3] }
  | _ => none }
def waitsTellRow : OpenClaim := { program := "ytdmdohjdmnmabaagreat", sum := "c7a42d70852eae0aec34dfeb3c320ab51863b3a634ae6655b6306e9f3f2ba728", func := "repartee/reparteelaw35.WaitsTell", spec := "waitsTell", unfollowed := true, recurses := true, apart := false }
def WaitsTellSaid : Prop := waitsTellRow.holds Tryz.pinned (OpenSpec.ofChange waitsTellSpec)

/-- ITS FALSE NEIGHBOUR: 'it returns false'. Refute it at one input. -/
def waitsTellWrong : ChangeSpec := { name := "waitsTell", fn := fun _ => fun
  | [d1, d2, d3] => { results := [.lit (.bool false)], args := [d1, d2, d3] }
  | _ => none }
def WaitsTellWrongFalsely : Prop := waitsTellRow.holds Tryz.pinned (OpenSpec.ofChange waitsTellWrong)

/-- 'reparteelaw36.SendsTell': WHATEVER THE INPUT: true; the input reads as it did. -/
def sendsTellSpec : ChangeSpec := { name := "sendsTell", fn := fun _ => fun
  | [d1, d2, d3] => { results := [.lit (.bool true)], args := [d1, d2, d3] }
  | _ => none }
def sendsTellRow : OpenClaim := { program := "ytdmdohjdmnmabaagreat", sum := "c7a42d70852eae0aec34dfeb3c320ab51863b3a634ae6655b6306e9f3f2ba728", func := "repartee/reparteelaw36.SendsTell", spec := "sendsTell", unfollowed := true, recurses := true, apart := false }
def SendsTellSaid : Prop := sendsTellRow.holds Tryz.pinned (OpenSpec.ofChange sendsTellSpec)

/-- ITS FALSE NEIGHBOUR: 'it returns false'. Refute it at one input. -/
def sendsTellWrong : ChangeSpec := { name := "sendsTell", fn := fun _ => fun
  | [d1, d2, d3] => { results := [.lit (.bool false)], args := [d1, d2, d3] }
  | _ => none }
def SendsTellWrongFalsely : Prop := sendsTellRow.holds Tryz.pinned (OpenSpec.ofChange sendsTellWrong)

/-- 'reparteelaw36.SendsOrder': WHATEVER THE INPUT: true; the input reads as it did. -/
def sendsOrderSpec : ChangeSpec := { name := "sendsOrder", fn := fun _ => fun
  | [d1, d2, d3] => { results := [.lit (.bool true)], args := [d1, d2, d3] }
  | _ => none }
def sendsOrderRow : OpenClaim := { program := "ytdmdohjdmnmabaagreat", sum := "c7a42d70852eae0aec34dfeb3c320ab51863b3a634ae6655b6306e9f3f2ba728", func := "repartee/reparteelaw36.SendsOrder", spec := "sendsOrder", inPlace := ["internal/abi.NoEscape"], unfollowed := true, recurses := true, apart := false }
def SendsOrderSaid : Prop := sendsOrderRow.holds Tryz.pinned (OpenSpec.ofChange sendsOrderSpec)

/-- ITS FALSE NEIGHBOUR: 'it returns false'. Refute it at one input. -/
def sendsOrderWrong : ChangeSpec := { name := "sendsOrder", fn := fun _ => fun
  | [d1, d2, d3] => { results := [.lit (.bool false)], args := [d1, d2, d3] }
  | _ => none }
def SendsOrderWrongFalsely : Prop := sendsOrderRow.holds Tryz.pinned (OpenSpec.ofChange sendsOrderWrong)

/- THE SECOND FORM. 'bulk': how many values and letters a reading holds, each counted each time it is reached (what is shared counts as often as it is met; a slice's spare places count too). A statement '..UptoSaid' is the law's where the arguments, and the package variables that the reading takes, are together of bulk at most 1048576: NARROWER than '..Said'. Prove '..Said' where nothing that the law and all that it calls make is longer than what came in: it says more and counts as full. Else prove '..UptoSaid'. A law counts once. -/
mutual
def uptoBulk {H : Type} : DataW H → Nat
  | .lit (.string bytes) => bytes.length + 1
  | .lit _ => 1
  | .nil => 1
  | .ptr d => uptoBulk d + 1
  | .slice elems spare => uptoBulkAll elems + uptoBulkAll spare + 1
  | .agg parts => uptoBulkAll parts + 1
  | .iface _ d => uptoBulk d + 1
  | .map entries => uptoBulkEntries entries + 1
  | .held _ => 1
def uptoBulkAll {H : Type} : List (DataW H) → Nat
  | [] => 0
  | d :: r => uptoBulk d + uptoBulkAll r
def uptoBulkEntries {H : Type} : List (Lit × DataW H) → Nat
  | [] => 0
  | x :: r => uptoBulkEntry x + uptoBulkEntries r
def uptoBulkEntry {H : Type} : Lit × DataW H → Nat
  | (.string bytes, d) => bytes.length + uptoBulk d + 1
  | (_, d) => uptoBulk d + 1
 end
def uptoSmall : (H : Type) → List (DataW H) → Bool := fun _ ds => decide (uptoBulkAll ds ≤ 1048576)
def OpenSpec.upto (s : _root_.Go.ChangeSpec) : _root_.Go.OpenSpec := { _root_.Go.OpenSpec.ofChange s with cond := some uptoSmall }

/-- 'reparteelaw35.WaitsNext', WHERE WHAT IT READS IS OF BULK AT MOST 1048576: true; the input reads as it did. -/
def waitsNextUptoRow : OpenClaim := { program := "ytdmdohjdmnmabaagreat", sum := "c7a42d70852eae0aec34dfeb3c320ab51863b3a634ae6655b6306e9f3f2ba728", func := "repartee/reparteelaw35.WaitsNext", spec := "waitsNext", unfollowed := true, recurses := true, apart := false, narrowed := true }
def WaitsNextUptoSaid : Prop := waitsNextUptoRow.holds Tryz.pinned (OpenSpec.upto waitsNextSpec)

/-- 'reparteelaw41.PromptTells', WHERE WHAT IT READS IS OF BULK AT MOST 1048576: true; the input reads as it did. -/
def promptTellsUptoRow : OpenClaim := { program := "ytdmdohjdmnmabaagreat", sum := "c7a42d70852eae0aec34dfeb3c320ab51863b3a634ae6655b6306e9f3f2ba728", func := "repartee/reparteelaw41.PromptTells", spec := "promptTells", unfollowed := true, recurses := true, apart := false, narrowed := true }
def PromptTellsUptoSaid : Prop := promptTellsUptoRow.holds Tryz.pinned (OpenSpec.upto promptTellsSpec)

/-- 'reparteelaw35.WaitsTell', WHERE WHAT IT READS IS OF BULK AT MOST 1048576: true; the input reads as it did. -/
def waitsTellUptoRow : OpenClaim := { program := "ytdmdohjdmnmabaagreat", sum := "c7a42d70852eae0aec34dfeb3c320ab51863b3a634ae6655b6306e9f3f2ba728", func := "repartee/reparteelaw35.WaitsTell", spec := "waitsTell", unfollowed := true, recurses := true, apart := false, narrowed := true }
def WaitsTellUptoSaid : Prop := waitsTellUptoRow.holds Tryz.pinned (OpenSpec.upto waitsTellSpec)

/-- 'reparteelaw36.SendsTell', WHERE WHAT IT READS IS OF BULK AT MOST 1048576: true; the input reads as it did. -/
def sendsTellUptoRow : OpenClaim := { program := "ytdmdohjdmnmabaagreat", sum := "c7a42d70852eae0aec34dfeb3c320ab51863b3a634ae6655b6306e9f3f2ba728", func := "repartee/reparteelaw36.SendsTell", spec := "sendsTell", unfollowed := true, recurses := true, apart := false, narrowed := true }
def SendsTellUptoSaid : Prop := sendsTellUptoRow.holds Tryz.pinned (OpenSpec.upto sendsTellSpec)

/-- 'reparteelaw36.SendsOrder', WHERE WHAT IT READS IS OF BULK AT MOST 1048576: true; the input reads as it did. -/
def sendsOrderUptoRow : OpenClaim := { program := "ytdmdohjdmnmabaagreat", sum := "c7a42d70852eae0aec34dfeb3c320ab51863b3a634ae6655b6306e9f3f2ba728", func := "repartee/reparteelaw36.SendsOrder", spec := "sendsOrder", inPlace := ["internal/abi.NoEscape"], unfollowed := true, recurses := true, apart := false, narrowed := true }
def SendsOrderUptoSaid : Prop := sendsOrderUptoRow.holds Tryz.pinned (OpenSpec.upto sendsOrderSpec)

end Rows
end Go.Proofs.YtdmdohjdmnmabaaGreat
