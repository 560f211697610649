/-
  No cell of these rows narrows 'for every input' (looked for: loops, veiled, ifaces, maps, wideKeys, modest, calm, conditions, laid).
  DERIVED. THE GIVEN ROWS OF THIS SEAT. 15 by the template 'for every input the law returns true; each argument reads behind the call as it read before'; 0 by the template 'total and deterministic' (their statements: YtmkbhejbbhikcaaTotals.lean).
  GIVEN WITH THE SEED: the statements are not yours to turn. If you find one false, say at which input.
  Laid BY PROGRAM, IN A SANDBOX (cutbox-rows.mjs): the forced cells as the released guide's own fill.sh prints them over the translation 94f4ed384083e65c… (all of the seat's roots in one cut). By AI agents, Wed Nov 11 2026. No macro, syntax, notation, axiom, sorry.
-/
import Derived.Test.YtmkbhejbbhikcaaChecked
import GoSem.Claim
import GoSem.ClaimJoined
import GoSem.ClaimMapViews
import Derived.JoinedTies
import Derived.KernelRfl
namespace Go.Proofs.Ytmkbhejbbhikcaa
/- THE CELL 'sum', in the pinned program and in every row, IS THE sha256 OF THE DUMP (.gsa) THAT YtmkbhejbbhikcaaProg.lean LOADS. Nothing in Lean hashes anything: it is a label: what it is worth is what the hold of that sum in a sandbox is worth. -/
noncomputable def Try.pinned : Pinned := { name := "ytmkbhejbbhikcaa", sum := "94f4ed384083e65c74a2a4f0f2d6b1d57bc5d8ba0000aba7210ad887f45f54c9", checked := Try.checked }
namespace Rows
def none {H : Type} : Left H := { results := [], args := [] }

/-- 'reparteelaw26.PurseEnough': WHATEVER THE INPUT: true; the input reads as it did. -/
def purseEnoughSpec : ChangeSpec := { name := "purseEnough", fn := fun _ => fun
  | [d1, d2, d3] => { results := [.lit (.bool true)], args := [d1, d2, d3] }
  | _ => none }
def purseEnoughRow : OpenClaim := { program := "ytmkbhejbbhikcaa", sum := "94f4ed384083e65c74a2a4f0f2d6b1d57bc5d8ba0000aba7210ad887f45f54c9", func := "repartee/reparteelaw26.PurseEnough", spec := "purseEnough", apart := false }
def PurseEnoughSaid : Prop := purseEnoughRow.holds Try.pinned (OpenSpec.ofChange purseEnoughSpec)

/-- ITS FALSE NEIGHBOUR: 'it returns false'. Refute it at one input. -/
def purseEnoughWrong : ChangeSpec := { name := "purseEnough", fn := fun _ => fun
  | [d1, d2, d3] => { results := [.lit (.bool false)], args := [d1, d2, d3] }
  | _ => none }
def PurseEnoughWrongFalsely : Prop := purseEnoughRow.holds Try.pinned (OpenSpec.ofChange purseEnoughWrong)

/-- 'reparteelaw26.PurseApart': WHATEVER THE INPUT: true; the input reads as it did. -/
def purseApartSpec : ChangeSpec := { name := "purseApart", fn := fun _ => fun
  | [d1, d2] => { results := [.lit (.bool true)], args := [d1, d2] }
  | _ => none }
def purseApartRow : OpenClaim := { program := "ytmkbhejbbhikcaa", sum := "94f4ed384083e65c74a2a4f0f2d6b1d57bc5d8ba0000aba7210ad887f45f54c9", func := "repartee/reparteelaw26.PurseApart", spec := "purseApart", apart := false }
def PurseApartSaid : Prop := purseApartRow.holds Try.pinned (OpenSpec.ofChange purseApartSpec)

/-- ITS FALSE NEIGHBOUR: 'it returns false'. Refute it at one input. -/
def purseApartWrong : ChangeSpec := { name := "purseApart", fn := fun _ => fun
  | [d1, d2] => { results := [.lit (.bool false)], args := [d1, d2] }
  | _ => none }
def PurseApartWrongFalsely : Prop := purseApartRow.holds Try.pinned (OpenSpec.ofChange purseApartWrong)

/-- 'reparteelaw26.PursePlays': WHATEVER THE INPUT: true; the input reads as it did. -/
def pursePlaysSpec : ChangeSpec := { name := "pursePlays", fn := fun _ => fun
  | [d1, d2] => { results := [.lit (.bool true)], args := [d1, d2] }
  | _ => none }
def pursePlaysRow : OpenClaim := { program := "ytmkbhejbbhikcaa", sum := "94f4ed384083e65c74a2a4f0f2d6b1d57bc5d8ba0000aba7210ad887f45f54c9", func := "repartee/reparteelaw26.PursePlays", spec := "pursePlays", apart := false }
def PursePlaysSaid : Prop := pursePlaysRow.holds Try.pinned (OpenSpec.ofChange pursePlaysSpec)

/-- ITS FALSE NEIGHBOUR: 'it returns false'. Refute it at one input. -/
def pursePlaysWrong : ChangeSpec := { name := "pursePlays", fn := fun _ => fun
  | [d1, d2] => { results := [.lit (.bool false)], args := [d1, d2] }
  | _ => none }
def PursePlaysWrongFalsely : Prop := pursePlaysRow.holds Try.pinned (OpenSpec.ofChange pursePlaysWrong)

/-- 'reparteelaw26.PurseNil': WHATEVER THE INPUT: true; the input reads as it did. -/
def purseNilSpec : ChangeSpec := { name := "purseNil", fn := fun _ => fun
  | [d1, d2] => { results := [.lit (.bool true)], args := [d1, d2] }
  | _ => none }
def purseNilRow : OpenClaim := { program := "ytmkbhejbbhikcaa", sum := "94f4ed384083e65c74a2a4f0f2d6b1d57bc5d8ba0000aba7210ad887f45f54c9", func := "repartee/reparteelaw26.PurseNil", spec := "purseNil", apart := false }
def PurseNilSaid : Prop := purseNilRow.holds Try.pinned (OpenSpec.ofChange purseNilSpec)

/-- ITS FALSE NEIGHBOUR: 'it returns false'. Refute it at one input. -/
def purseNilWrong : ChangeSpec := { name := "purseNil", fn := fun _ => fun
  | [d1, d2] => { results := [.lit (.bool false)], args := [d1, d2] }
  | _ => none }
def PurseNilWrongFalsely : Prop := purseNilRow.holds Try.pinned (OpenSpec.ofChange purseNilWrong)

/-- 'reparteelaw03.RingCopies': WHATEVER THE INPUT: true; the input reads as it did. -/
def ringCopiesSpec : ChangeSpec := { name := "ringCopies", fn := fun _ => fun
  | [d1, d2, d3] => { results := [.lit (.bool true)], args := [d1, d2, d3] }
  | _ => none }
def ringCopiesRow : OpenClaim := { program := "ytmkbhejbbhikcaa", sum := "94f4ed384083e65c74a2a4f0f2d6b1d57bc5d8ba0000aba7210ad887f45f54c9", func := "repartee/reparteelaw03.RingCopies", spec := "ringCopies", apart := false }
def RingCopiesSaid : Prop := ringCopiesRow.holds Try.pinned (OpenSpec.ofChange ringCopiesSpec)

/-- ITS FALSE NEIGHBOUR: 'it returns false'. Refute it at one input. -/
def ringCopiesWrong : ChangeSpec := { name := "ringCopies", fn := fun _ => fun
  | [d1, d2, d3] => { results := [.lit (.bool false)], args := [d1, d2, d3] }
  | _ => none }
def RingCopiesWrongFalsely : Prop := ringCopiesRow.holds Try.pinned (OpenSpec.ofChange ringCopiesWrong)

/-- 'reparteelaw03.RingOrders': WHATEVER THE INPUT: true; the input reads as it did. -/
def ringOrdersSpec : ChangeSpec := { name := "ringOrders", fn := fun _ => fun
  | [d1, d2, d3] => { results := [.lit (.bool true)], args := [d1, d2, d3] }
  | _ => none }
def ringOrdersRow : OpenClaim := { program := "ytmkbhejbbhikcaa", sum := "94f4ed384083e65c74a2a4f0f2d6b1d57bc5d8ba0000aba7210ad887f45f54c9", func := "repartee/reparteelaw03.RingOrders", spec := "ringOrders", apart := false }
def RingOrdersSaid : Prop := ringOrdersRow.holds Try.pinned (OpenSpec.ofChange ringOrdersSpec)

/-- ITS FALSE NEIGHBOUR: 'it returns false'. Refute it at one input. -/
def ringOrdersWrong : ChangeSpec := { name := "ringOrders", fn := fun _ => fun
  | [d1, d2, d3] => { results := [.lit (.bool false)], args := [d1, d2, d3] }
  | _ => none }
def RingOrdersWrongFalsely : Prop := ringOrdersRow.holds Try.pinned (OpenSpec.ofChange ringOrdersWrong)

/-- 'reparteelaw03.RingPlays': WHATEVER THE INPUT: true; the input reads as it did. -/
def ringPlaysSpec : ChangeSpec := { name := "ringPlays", fn := fun _ => fun
  | [d] => { results := [.lit (.bool true)], args := [d] }
  | _ => none }
def ringPlaysRow : OpenClaim := { program := "ytmkbhejbbhikcaa", sum := "94f4ed384083e65c74a2a4f0f2d6b1d57bc5d8ba0000aba7210ad887f45f54c9", func := "repartee/reparteelaw03.RingPlays", spec := "ringPlays", apart := false }
def RingPlaysSaid : Prop := ringPlaysRow.holds Try.pinned (OpenSpec.ofChange ringPlaysSpec)

/-- ITS FALSE NEIGHBOUR: 'it returns false'. Refute it at one input. -/
def ringPlaysWrong : ChangeSpec := { name := "ringPlays", fn := fun _ => fun
  | [d] => { results := [.lit (.bool false)], args := [d] }
  | _ => none }
def RingPlaysWrongFalsely : Prop := ringPlaysRow.holds Try.pinned (OpenSpec.ofChange ringPlaysWrong)

/-- 'reparteelaw04.FifoOrders': WHATEVER THE INPUT: true; the input reads as it did. -/
def fifoOrdersSpec : ChangeSpec := { name := "fifoOrders", fn := fun _ => fun
  | [d1, d2] => { results := [.lit (.bool true)], args := [d1, d2] }
  | _ => none }
def fifoOrdersRow : OpenClaim := { program := "ytmkbhejbbhikcaa", sum := "94f4ed384083e65c74a2a4f0f2d6b1d57bc5d8ba0000aba7210ad887f45f54c9", func := "repartee/reparteelaw04.FifoOrders", spec := "fifoOrders", apart := false }
def FifoOrdersSaid : Prop := fifoOrdersRow.holds Try.pinned (OpenSpec.ofChange fifoOrdersSpec)

/-- ITS FALSE NEIGHBOUR: 'it returns false'. Refute it at one input. -/
def fifoOrdersWrong : ChangeSpec := { name := "fifoOrders", fn := fun _ => fun
  | [d1, d2] => { results := [.lit (.bool false)], args := [d1, d2] }
  | _ => none }
def FifoOrdersWrongFalsely : Prop := fifoOrdersRow.holds Try.pinned (OpenSpec.ofChange fifoOrdersWrong)

/-- 'reparteelaw03.RingNil': WHATEVER THE INPUT: true; the input reads as it did. -/
def ringNilSpec : ChangeSpec := { name := "ringNil", fn := fun _ => fun
  | [d1, d2] => { results := [.lit (.bool true)], args := [d1, d2] }
  | _ => none }
def ringNilRow : OpenClaim := { program := "ytmkbhejbbhikcaa", sum := "94f4ed384083e65c74a2a4f0f2d6b1d57bc5d8ba0000aba7210ad887f45f54c9", func := "repartee/reparteelaw03.RingNil", spec := "ringNil", apart := false }
def RingNilSaid : Prop := ringNilRow.holds Try.pinned (OpenSpec.ofChange ringNilSpec)

/-- ITS FALSE NEIGHBOUR: 'it returns false'. Refute it at one input. -/
def ringNilWrong : ChangeSpec := { name := "ringNil", fn := fun _ => fun
  | [d1, d2] => { results := [.lit (.bool false)], args := [d1, d2] }
  | _ => none }
def RingNilWrongFalsely : Prop := ringNilRow.holds Try.pinned (OpenSpec.ofChange ringNilWrong)

/-- 'reparteelaw04.FifoPlays': WHATEVER THE INPUT: true; the input reads as it did. -/
def fifoPlaysSpec : ChangeSpec := { name := "fifoPlays", fn := fun _ => fun
  | [d1, d2, d3] => { results := [.lit (.bool true)], args := [d1, d2, d3] }
  | _ => none }
def fifoPlaysRow : OpenClaim := { program := "ytmkbhejbbhikcaa", sum := "94f4ed384083e65c74a2a4f0f2d6b1d57bc5d8ba0000aba7210ad887f45f54c9", func := "repartee/reparteelaw04.FifoPlays", spec := "fifoPlays", apart := false }
def FifoPlaysSaid : Prop := fifoPlaysRow.holds Try.pinned (OpenSpec.ofChange fifoPlaysSpec)

/-- ITS FALSE NEIGHBOUR: 'it returns false'. Refute it at one input. -/
def fifoPlaysWrong : ChangeSpec := { name := "fifoPlays", fn := fun _ => fun
  | [d1, d2, d3] => { results := [.lit (.bool false)], args := [d1, d2, d3] }
  | _ => none }
def FifoPlaysWrongFalsely : Prop := fifoPlaysRow.holds Try.pinned (OpenSpec.ofChange fifoPlaysWrong)

/-- 'reparteelaw04.FifoNil': WHATEVER THE INPUT: true; the input reads as it did. -/
def fifoNilSpec : ChangeSpec := { name := "fifoNil", fn := fun _ => fun
  | [d] => { results := [.lit (.bool true)], args := [d] }
  | _ => none }
def fifoNilRow : OpenClaim := { program := "ytmkbhejbbhikcaa", sum := "94f4ed384083e65c74a2a4f0f2d6b1d57bc5d8ba0000aba7210ad887f45f54c9", func := "repartee/reparteelaw04.FifoNil", spec := "fifoNil", apart := false }
def FifoNilSaid : Prop := fifoNilRow.holds Try.pinned (OpenSpec.ofChange fifoNilSpec)

/-- ITS FALSE NEIGHBOUR: 'it returns false'. Refute it at one input. -/
def fifoNilWrong : ChangeSpec := { name := "fifoNil", fn := fun _ => fun
  | [d] => { results := [.lit (.bool false)], args := [d] }
  | _ => none }
def FifoNilWrongFalsely : Prop := fifoNilRow.holds Try.pinned (OpenSpec.ofChange fifoNilWrong)

/-- 'reparteelaw27.TurnsWait': WHATEVER THE INPUT: true; the input reads as it did. -/
def turnsWaitSpec : ChangeSpec := { name := "turnsWait", fn := fun _ => fun
  | [d1, d2, d3] => { results := [.lit (.bool true)], args := [d1, d2, d3] }
  | _ => none }
def turnsWaitRow : OpenClaim := { program := "ytmkbhejbbhikcaa", sum := "94f4ed384083e65c74a2a4f0f2d6b1d57bc5d8ba0000aba7210ad887f45f54c9", func := "repartee/reparteelaw27.TurnsWait", spec := "turnsWait", apart := false }
def TurnsWaitSaid : Prop := turnsWaitRow.holds Try.pinned (OpenSpec.ofChange turnsWaitSpec)

/-- ITS FALSE NEIGHBOUR: 'it returns false'. Refute it at one input. -/
def turnsWaitWrong : ChangeSpec := { name := "turnsWait", fn := fun _ => fun
  | [d1, d2, d3] => { results := [.lit (.bool false)], args := [d1, d2, d3] }
  | _ => none }
def TurnsWaitWrongFalsely : Prop := turnsWaitRow.holds Try.pinned (OpenSpec.ofChange turnsWaitWrong)

/-- 'reparteelaw27.TurnsFair': WHATEVER THE INPUT: true; the input reads as it did. -/
def turnsFairSpec : ChangeSpec := { name := "turnsFair", fn := fun _ => fun
  | [d1, d2] => { results := [.lit (.bool true)], args := [d1, d2] }
  | _ => none }
def turnsFairRow : OpenClaim := { program := "ytmkbhejbbhikcaa", sum := "94f4ed384083e65c74a2a4f0f2d6b1d57bc5d8ba0000aba7210ad887f45f54c9", func := "repartee/reparteelaw27.TurnsFair", spec := "turnsFair", apart := false }
def TurnsFairSaid : Prop := turnsFairRow.holds Try.pinned (OpenSpec.ofChange turnsFairSpec)

/-- ITS FALSE NEIGHBOUR: 'it returns false'. Refute it at one input. -/
def turnsFairWrong : ChangeSpec := { name := "turnsFair", fn := fun _ => fun
  | [d1, d2] => { results := [.lit (.bool false)], args := [d1, d2] }
  | _ => none }
def TurnsFairWrongFalsely : Prop := turnsFairRow.holds Try.pinned (OpenSpec.ofChange turnsFairWrong)

/-- 'reparteelaw27.TurnsPlay': WHATEVER THE INPUT: true; the input reads as it did. -/
def turnsPlaySpec : ChangeSpec := { name := "turnsPlay", fn := fun _ => fun
  | [d1, d2] => { results := [.lit (.bool true)], args := [d1, d2] }
  | _ => none }
def turnsPlayRow : OpenClaim := { program := "ytmkbhejbbhikcaa", sum := "94f4ed384083e65c74a2a4f0f2d6b1d57bc5d8ba0000aba7210ad887f45f54c9", func := "repartee/reparteelaw27.TurnsPlay", spec := "turnsPlay", apart := false }
def TurnsPlaySaid : Prop := turnsPlayRow.holds Try.pinned (OpenSpec.ofChange turnsPlaySpec)

/-- ITS FALSE NEIGHBOUR: 'it returns false'. Refute it at one input. -/
def turnsPlayWrong : ChangeSpec := { name := "turnsPlay", fn := fun _ => fun
  | [d1, d2] => { results := [.lit (.bool false)], args := [d1, d2] }
  | _ => none }
def TurnsPlayWrongFalsely : Prop := turnsPlayRow.holds Try.pinned (OpenSpec.ofChange turnsPlayWrong)

/-- 'reparteelaw27.TurnsNil': WHATEVER THE INPUT: true; the input reads as it did. -/
def turnsNilSpec : ChangeSpec := { name := "turnsNil", fn := fun _ => fun
  | [d1, d2, d3] => { results := [.lit (.bool true)], args := [d1, d2, d3] }
  | _ => none }
def turnsNilRow : OpenClaim := { program := "ytmkbhejbbhikcaa", sum := "94f4ed384083e65c74a2a4f0f2d6b1d57bc5d8ba0000aba7210ad887f45f54c9", func := "repartee/reparteelaw27.TurnsNil", spec := "turnsNil", apart := false }
def TurnsNilSaid : Prop := turnsNilRow.holds Try.pinned (OpenSpec.ofChange turnsNilSpec)

/-- ITS FALSE NEIGHBOUR: 'it returns false'. Refute it at one input. -/
def turnsNilWrong : ChangeSpec := { name := "turnsNil", fn := fun _ => fun
  | [d1, d2, d3] => { results := [.lit (.bool false)], args := [d1, d2, d3] }
  | _ => none }
def TurnsNilWrongFalsely : Prop := turnsNilRow.holds Try.pinned (OpenSpec.ofChange turnsNilWrong)

/- THE SECOND FORM. 'bulk': how many values and letters a reading holds, each counted each time it is reached (what is shared counts as often as it is met; a slice's spare places count too). A statement '..UptoSaid' is the law's where the arguments, and the package variables that the reading takes, are together of bulk at most 1048576: NARROWER than '..Said'. Prove '..Said' where nothing that the law and all that it calls make is longer than what came in: it says more and counts as full. Else prove '..UptoSaid'. A law counts once. -/
mutual
def uptoBulk {H : Type} : DataW H → Nat
  | .lit (.string bytes) => bytes.length + 1
  | .lit _ => 1
  | .nil => 1
  | .ptr d => uptoBulk d + 1
  | .slice elems spare => uptoBulkAll elems + uptoBulkAll spare + 1
  | .agg parts => uptoBulkAll parts + 1
  | .iface _ d => uptoBulk d + 1
  | .map entries => uptoBulkEntries entries + 1
  | .held _ => 1
def uptoBulkAll {H : Type} : List (DataW H) → Nat
  | [] => 0
  | d :: r => uptoBulk d + uptoBulkAll r
def uptoBulkEntries {H : Type} : List (Lit × DataW H) → Nat
  | [] => 0
  | x :: r => uptoBulkEntry x + uptoBulkEntries r
def uptoBulkEntry {H : Type} : Lit × DataW H → Nat
  | (.string bytes, d) => bytes.length + uptoBulk d + 1
  | (_, d) => uptoBulk d + 1
 end
def uptoSmall : (H : Type) → List (DataW H) → Bool := fun _ ds => decide (uptoBulkAll ds ≤ 1048576)
def OpenSpec.upto (s : _root_.Go.ChangeSpec) : _root_.Go.OpenSpec := { _root_.Go.OpenSpec.ofChange s with cond := some uptoSmall }

/-- 'reparteelaw26.PurseEnough', WHERE WHAT IT READS IS OF BULK AT MOST 1048576: true; the input reads as it did. -/
def purseEnoughUptoRow : OpenClaim := { program := "ytmkbhejbbhikcaa", sum := "94f4ed384083e65c74a2a4f0f2d6b1d57bc5d8ba0000aba7210ad887f45f54c9", func := "repartee/reparteelaw26.PurseEnough", spec := "purseEnough", apart := false, narrowed := true }
def PurseEnoughUptoSaid : Prop := purseEnoughUptoRow.holds Try.pinned (OpenSpec.upto purseEnoughSpec)

/-- 'reparteelaw26.PurseApart', WHERE WHAT IT READS IS OF BULK AT MOST 1048576: true; the input reads as it did. -/
def purseApartUptoRow : OpenClaim := { program := "ytmkbhejbbhikcaa", sum := "94f4ed384083e65c74a2a4f0f2d6b1d57bc5d8ba0000aba7210ad887f45f54c9", func := "repartee/reparteelaw26.PurseApart", spec := "purseApart", apart := false, narrowed := true }
def PurseApartUptoSaid : Prop := purseApartUptoRow.holds Try.pinned (OpenSpec.upto purseApartSpec)

/-- 'reparteelaw26.PursePlays', WHERE WHAT IT READS IS OF BULK AT MOST 1048576: true; the input reads as it did. -/
def pursePlaysUptoRow : OpenClaim := { program := "ytmkbhejbbhikcaa", sum := "94f4ed384083e65c74a2a4f0f2d6b1d57bc5d8ba0000aba7210ad887f45f54c9", func := "repartee/reparteelaw26.PursePlays", spec := "pursePlays", apart := false, narrowed := true }
def PursePlaysUptoSaid : Prop := pursePlaysUptoRow.holds Try.pinned (OpenSpec.upto pursePlaysSpec)

/-- 'reparteelaw26.PurseNil', WHERE WHAT IT READS IS OF BULK AT MOST 1048576: true; the input reads as it did. -/
def purseNilUptoRow : OpenClaim := { program := "ytmkbhejbbhikcaa", sum := "94f4ed384083e65c74a2a4f0f2d6b1d57bc5d8ba0000aba7210ad887f45f54c9", func := "repartee/reparteelaw26.PurseNil", spec := "purseNil", apart := false, narrowed := true }
def PurseNilUptoSaid : Prop := purseNilUptoRow.holds Try.pinned (OpenSpec.upto purseNilSpec)

/-- 'reparteelaw03.RingCopies', WHERE WHAT IT READS IS OF BULK AT MOST 1048576: true; the input reads as it did. -/
def ringCopiesUptoRow : OpenClaim := { program := "ytmkbhejbbhikcaa", sum := "94f4ed384083e65c74a2a4f0f2d6b1d57bc5d8ba0000aba7210ad887f45f54c9", func := "repartee/reparteelaw03.RingCopies", spec := "ringCopies", apart := false, narrowed := true }
def RingCopiesUptoSaid : Prop := ringCopiesUptoRow.holds Try.pinned (OpenSpec.upto ringCopiesSpec)

/-- 'reparteelaw03.RingOrders', WHERE WHAT IT READS IS OF BULK AT MOST 1048576: true; the input reads as it did. -/
def ringOrdersUptoRow : OpenClaim := { program := "ytmkbhejbbhikcaa", sum := "94f4ed384083e65c74a2a4f0f2d6b1d57bc5d8ba0000aba7210ad887f45f54c9", func := "repartee/reparteelaw03.RingOrders", spec := "ringOrders", apart := false, narrowed := true }
def RingOrdersUptoSaid : Prop := ringOrdersUptoRow.holds Try.pinned (OpenSpec.upto ringOrdersSpec)

/-- 'reparteelaw03.RingPlays', WHERE WHAT IT READS IS OF BULK AT MOST 1048576: true; the input reads as it did. -/
def ringPlaysUptoRow : OpenClaim := { program := "ytmkbhejbbhikcaa", sum := "94f4ed384083e65c74a2a4f0f2d6b1d57bc5d8ba0000aba7210ad887f45f54c9", func := "repartee/reparteelaw03.RingPlays", spec := "ringPlays", apart := false, narrowed := true }
def RingPlaysUptoSaid : Prop := ringPlaysUptoRow.holds Try.pinned (OpenSpec.upto ringPlaysSpec)

/-- 'reparteelaw04.FifoOrders', WHERE WHAT IT READS IS OF BULK AT MOST 1048576: true; the input reads as it did. -/
def fifoOrdersUptoRow : OpenClaim := { program := "ytmkbhejbbhikcaa", sum := "94f4ed384083e65c74a2a4f0f2d6b1d57bc5d8ba0000aba7210ad887f45f54c9", func := "repartee/reparteelaw04.FifoOrders", spec := "fifoOrders", apart := false, narrowed := true }
def FifoOrdersUptoSaid : Prop := fifoOrdersUptoRow.holds Try.pinned (OpenSpec.upto fifoOrdersSpec)

/-- 'reparteelaw03.RingNil', WHERE WHAT IT READS IS OF BULK AT MOST 1048576: true; the input reads as it did. -/
def ringNilUptoRow : OpenClaim := { program := "ytmkbhejbbhikcaa", sum := "94f4ed384083e65c74a2a4f0f2d6b1d57bc5d8ba0000aba7210ad887f45f54c9", func := "repartee/reparteelaw03.RingNil", spec := "ringNil", apart := false, narrowed := true }
def RingNilUptoSaid : Prop := ringNilUptoRow.holds Try.pinned (OpenSpec.upto ringNilSpec)

/-- 'reparteelaw04.FifoPlays', WHERE WHAT IT READS IS OF BULK AT MOST 1048576: true; the input reads as it did. -/
def fifoPlaysUptoRow : OpenClaim := { program := "ytmkbhejbbhikcaa", sum := "94f4ed384083e65c74a2a4f0f2d6b1d57bc5d8ba0000aba7210ad887f45f54c9", func := "repartee/reparteelaw04.FifoPlays", spec := "fifoPlays", apart := false, narrowed := true }
def FifoPlaysUptoSaid : Prop := fifoPlaysUptoRow.holds Try.pinned (OpenSpec.upto fifoPlaysSpec)

/-- 'reparteelaw04.FifoNil', WHERE WHAT IT READS IS OF BULK AT MOST 1048576: true; the input reads as it did. -/
def fifoNilUptoRow : OpenClaim := { program := "ytmkbhejbbhikcaa", sum := "94f4ed384083e65c74a2a4f0f2d6b1d57bc5d8ba0000aba7210ad887f45f54c9", func := "repartee/reparteelaw04.FifoNil", spec := "fifoNil", apart := false, narrowed := true }
def FifoNilUptoSaid : Prop := fifoNilUptoRow.holds Try.pinned (OpenSpec.upto fifoNilSpec)

/-- 'reparteelaw27.TurnsWait', WHERE WHAT IT READS IS OF BULK AT MOST 1048576: true; the input reads as it did. -/
def turnsWaitUptoRow : OpenClaim := { program := "ytmkbhejbbhikcaa", sum := "94f4ed384083e65c74a2a4f0f2d6b1d57bc5d8ba0000aba7210ad887f45f54c9", func := "repartee/reparteelaw27.TurnsWait", spec := "turnsWait", apart := false, narrowed := true }
def TurnsWaitUptoSaid : Prop := turnsWaitUptoRow.holds Try.pinned (OpenSpec.upto turnsWaitSpec)

/-- 'reparteelaw27.TurnsFair', WHERE WHAT IT READS IS OF BULK AT MOST 1048576: true; the input reads as it did. -/
def turnsFairUptoRow : OpenClaim := { program := "ytmkbhejbbhikcaa", sum := "94f4ed384083e65c74a2a4f0f2d6b1d57bc5d8ba0000aba7210ad887f45f54c9", func := "repartee/reparteelaw27.TurnsFair", spec := "turnsFair", apart := false, narrowed := true }
def TurnsFairUptoSaid : Prop := turnsFairUptoRow.holds Try.pinned (OpenSpec.upto turnsFairSpec)

/-- 'reparteelaw27.TurnsPlay', WHERE WHAT IT READS IS OF BULK AT MOST 1048576: true; the input reads as it did. -/
def turnsPlayUptoRow : OpenClaim := { program := "ytmkbhejbbhikcaa", sum := "94f4ed384083e65c74a2a4f0f2d6b1d57bc5d8ba0000aba7210ad887f45f54c9", func := "repartee/reparteelaw27.TurnsPlay", spec := "turnsPlay", apart := false, narrowed := true }
def TurnsPlayUptoSaid : Prop := turnsPlayUptoRow.holds Try.pinned (OpenSpec.upto turnsPlaySpec)

/-- 'reparteelaw27.TurnsNil', WHERE WHAT IT READS IS OF BULK AT MOST 1048576: true; the input reads as it did. -/
def turnsNilUptoRow : OpenClaim := { program := "ytmkbhejbbhikcaa", sum := "94f4ed384083e65c74a2a4f0f2d6b1d57bc5d8ba0000aba7210ad887f45f54c9", func := "repartee/reparteelaw27.TurnsNil", spec := "turnsNil", apart := false, narrowed := true }
def TurnsNilUptoSaid : Prop := turnsNilUptoRow.holds Try.pinned (OpenSpec.upto turnsNilSpec)

end Rows
end Go.Proofs.Ytmkbhejbbhikcaa
