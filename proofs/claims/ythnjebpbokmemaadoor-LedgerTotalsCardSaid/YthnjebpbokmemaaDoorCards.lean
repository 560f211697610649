/-
  DERIVED. GIVEN WITH THE SEED: THE CARDS: each row of YthnjebpbokmemaaDoorRows.lean that lists a variable, with what it lists TIED to the program's text (the seventh form; the later family's looks); each row that meets fmt, with fmt's text TOLD by the authors' own Lean function (tested against real Go, not proved from fmt's source: count such statements apart). THE CARD IS WHAT COUNTS. Prove the row's statement (the work); the ties are given (YthnjebpbokmemaaDoorTie.lean); close each card by the builder's one call (the guide's Derived/Test/ToyasCard.lean, 'card_holds'). Laid BY PROGRAM, IN A SANDBOX (cutbox-door.mjs). By AI agents, Wed Nov 11 2026. No macro, syntax, notation, axiom, sorry.
-/
import Derived.Test.YthnjebpbokmemaaDoorRows
import GoSem.ClaimSeven
namespace Go.Proofs.YthnjebpbokmemaaDoor
namespace Rows

/-- THE TIED CARD OF 'reparteelaw38.LedgerLines'. -/
def ledgerLinesCard : Claim7 := { stood := { row := ledgerLinesRow, standIns := [], harness := (true, "3698be94dd8da21598c33b034bc71ef8291e7c38d1b5e10b5d51c9f5ffbfe8b1"), looks := false }, kinds := [], alts := [], laidByText := true, laidKinds := [.data, .data, .data], laidTests := true, laidLooks := .later }
def LedgerLinesCardSaid : Prop := Claim7.holds Tryd.pinned (.plain (OpenSpec.ofChange ledgerLinesSpec)) ledgerLinesCard

/-- THE TIED CARD OF 'reparteelaw38.LedgerRows'. -/
def ledgerRowsCard : Claim7 := { stood := { row := ledgerRowsRow, standIns := [], harness := (true, "3698be94dd8da21598c33b034bc71ef8291e7c38d1b5e10b5d51c9f5ffbfe8b1"), looks := false }, kinds := [], alts := [], laidByText := true, laidKinds := [.data, .data, .data], laidTests := true, laidLooks := .later }
def LedgerRowsCardSaid : Prop := Claim7.holds Tryd.pinned (.plain (OpenSpec.ofChange ledgerRowsSpec)) ledgerRowsCard

/-- THE TIED CARD OF 'reparteelaw38.LedgerTotals'. -/
def ledgerTotalsCard : Claim7 := { stood := { row := ledgerTotalsRow, standIns := [], harness := (true, "3698be94dd8da21598c33b034bc71ef8291e7c38d1b5e10b5d51c9f5ffbfe8b1"), looks := false }, kinds := [], alts := [], laidByText := true, laidKinds := [.data, .data, .data], laidTests := true, laidLooks := .later }
def LedgerTotalsCardSaid : Prop := Claim7.holds Tryd.pinned (.plain (OpenSpec.ofChange ledgerTotalsSpec)) ledgerTotalsCard

/-- THE SECOND FORM's CARD OF 'reparteelaw38.LedgerLines'. -/
def ledgerLinesUptoCard : Claim7 := { stood := { row := ledgerLinesUptoRow, standIns := [], harness := (true, "3698be94dd8da21598c33b034bc71ef8291e7c38d1b5e10b5d51c9f5ffbfe8b1"), looks := false }, kinds := [], alts := [], laidByText := true, laidKinds := [.data, .data, .data], laidTests := true, laidLooks := .later }
def LedgerLinesUptoCardSaid : Prop := Claim7.holds Tryd.pinned (.plain (OpenSpec.upto ledgerLinesSpec)) ledgerLinesUptoCard

/-- THE SECOND FORM's CARD OF 'reparteelaw38.LedgerRows'. -/
def ledgerRowsUptoCard : Claim7 := { stood := { row := ledgerRowsUptoRow, standIns := [], harness := (true, "3698be94dd8da21598c33b034bc71ef8291e7c38d1b5e10b5d51c9f5ffbfe8b1"), looks := false }, kinds := [], alts := [], laidByText := true, laidKinds := [.data, .data, .data], laidTests := true, laidLooks := .later }
def LedgerRowsUptoCardSaid : Prop := Claim7.holds Tryd.pinned (.plain (OpenSpec.upto ledgerRowsSpec)) ledgerRowsUptoCard

/-- THE SECOND FORM's CARD OF 'reparteelaw38.LedgerTotals'. -/
def ledgerTotalsUptoCard : Claim7 := { stood := { row := ledgerTotalsUptoRow, standIns := [], harness := (true, "3698be94dd8da21598c33b034bc71ef8291e7c38d1b5e10b5d51c9f5ffbfe8b1"), looks := false }, kinds := [], alts := [], laidByText := true, laidKinds := [.data, .data, .data], laidTests := true, laidLooks := .later }
def LedgerTotalsUptoCardSaid : Prop := Claim7.holds Tryd.pinned (.plain (OpenSpec.upto ledgerTotalsSpec)) ledgerTotalsUptoCard
end Rows
end Go.Proofs.YthnjebpbokmemaaDoor
