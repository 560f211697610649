/-
  DERIVED. GIVEN WITH THE SEED: THE CARDS: each row of YtaioaojfdngfdaaGreatDoorRows.lean that lists a variable, with what it lists TIED to the program's text (the seventh form; the later family's looks); each row that meets fmt, with fmt's text TOLD by the authors' own Lean function (tested against real Go, not proved from fmt's source: count such statements apart). THE CARD IS WHAT COUNTS. Prove the row's statement (the work); the ties are given (YtaioaojfdngfdaaGreatDoorTie.lean); close each card by the builder's one call (the guide's Derived/Test/ToyasCard.lean, 'card_holds'). Laid BY PROGRAM, IN A SANDBOX (cutbox-door.mjs). By AI agents, Wed Nov 11 2026. No macro, syntax, notation, axiom, sorry.
-/
import Derived.Test.YtaioaojfdngfdaaGreatDoorRows
import GoSem.ClaimSeven
namespace Go.Proofs.YtaioaojfdngfdaaGreatDoor
namespace Rows

/-- THE TIED CARD OF 'reparteelaw14.ParseReads'. -/
def parseReadsCard : Claim7 := { stood := { row := parseReadsRow, standIns := [], harness := (true, "0b01595e118a55073da018ae66dfb9e6f53c3806d4b02ab52a1a2c31ee48a03b"), looks := true }, kinds := [], alts := [], laidByText := true, laidKinds := [.data, .data, .data, .data, .sentinel, .sentinel, .pinned], laidTests := true, laidLooks := .later }
def ParseReadsCardSaid : Prop := Claim7.holds Tryz.pinned (.plain (OpenSpec.ofChange parseReadsSpec)) parseReadsCard

/-- THE TIED CARD OF 'reparteelaw14.ParseLines'. -/
def parseLinesCard : Claim7 := { stood := { row := parseLinesRow, standIns := [], harness := (true, "0b01595e118a55073da018ae66dfb9e6f53c3806d4b02ab52a1a2c31ee48a03b"), looks := true }, kinds := [], alts := [], laidByText := true, laidKinds := [.data, .data, .data, .data, .sentinel, .sentinel, .pinned], laidTests := true, laidLooks := .later }
def ParseLinesCardSaid : Prop := Claim7.holds Tryz.pinned (.plain (OpenSpec.ofChange parseLinesSpec)) parseLinesCard

/-- THE TIED CARD OF 'reparteelaw14.ParseLong'. -/
def parseLongCard : Claim7 := { stood := { row := parseLongRow, standIns := [], harness := (true, "0b01595e118a55073da018ae66dfb9e6f53c3806d4b02ab52a1a2c31ee48a03b"), looks := true }, kinds := [], alts := [], laidByText := true, laidKinds := [.data, .data, .data, .data, .sentinel, .sentinel, .pinned], laidTests := true, laidLooks := .later }
def ParseLongCardSaid : Prop := Claim7.holds Tryz.pinned (.plain (OpenSpec.ofChange parseLongSpec)) parseLongCard

/-- THE TIED CARD OF 'reparteelaw17.LoadApart'. -/
def loadApartCard : Claim7 := { stood := { row := loadApartRow, standIns := [], harness := (true, "0b01595e118a55073da018ae66dfb9e6f53c3806d4b02ab52a1a2c31ee48a03b"), looks := true }, kinds := [], alts := [], laidByText := true, laidKinds := [.data, .data, .data, .data, .sentinel, .sentinel, .pinned], laidTests := true, laidLooks := .later }
def LoadApartCardSaid : Prop := Claim7.holds Tryz.pinned (.plain (OpenSpec.ofChange loadApartSpec)) loadApartCard

/-- THE TIED CARD OF 'reparteelaw17.LoadLong'. -/
def loadLongCard : Claim7 := { stood := { row := loadLongRow, standIns := [], harness := (true, "0b01595e118a55073da018ae66dfb9e6f53c3806d4b02ab52a1a2c31ee48a03b"), looks := true }, kinds := [], alts := [], laidByText := true, laidKinds := [.data, .data, .data, .data, .sentinel, .sentinel, .pinned], laidTests := true, laidLooks := .later }
def LoadLongCardSaid : Prop := Claim7.holds Tryz.pinned (.plain (OpenSpec.ofChange loadLongSpec)) loadLongCard

/-- THE TIED CARD OF 'reparteelaw17.LoadReads'. -/
def loadReadsCard : Claim7 := { stood := { row := loadReadsRow, standIns := [], harness := (true, "0b01595e118a55073da018ae66dfb9e6f53c3806d4b02ab52a1a2c31ee48a03b"), looks := true }, kinds := [], alts := [], laidByText := true, laidKinds := [.data, .data, .data, .data, .sentinel, .sentinel, .pinned], laidTests := true, laidLooks := .later }
def LoadReadsCardSaid : Prop := Claim7.holds Tryz.pinned (.plain (OpenSpec.ofChange loadReadsSpec)) loadReadsCard

/-- THE TIED CARD OF 'reparteelaw17.LoadFaults'. -/
def loadFaultsCard : Claim7 := { stood := { row := loadFaultsRow, standIns := [], harness := (true, "0b01595e118a55073da018ae66dfb9e6f53c3806d4b02ab52a1a2c31ee48a03b"), looks := true }, kinds := [], alts := [], laidByText := true, laidKinds := [.data, .data, .data, .data, .handle, .sentinel, .sentinel, .pinned], laidTests := true, laidLooks := .later }
def LoadFaultsCardSaid : Prop := Claim7.holds Tryz.pinned (.plain (OpenSpec.ofChange loadFaultsSpec)) loadFaultsCard

/-- THE TIED CARD OF 'reparteelaw15.ShowBack'. -/
def showBackCard : Claim7 := { stood := { row := showBackRow, standIns := [], harness := (true, "0b01595e118a55073da018ae66dfb9e6f53c3806d4b02ab52a1a2c31ee48a03b"), looks := true }, kinds := [], alts := [], laidByText := true, laidKinds := [.data, .data, .data, .data, .sentinel, .sentinel, .pinned], laidTests := true, laidLooks := .later }
def ShowBackCardSaid : Prop := Claim7.holds Tryz.pinned (.plain (OpenSpec.ofChange showBackSpec)) showBackCard

/-- THE TIED CARD OF 'reparteelaw15.ShowAgain'. -/
def showAgainCard : Claim7 := { stood := { row := showAgainRow, standIns := [], harness := (true, "0b01595e118a55073da018ae66dfb9e6f53c3806d4b02ab52a1a2c31ee48a03b"), looks := true }, kinds := [], alts := [], laidByText := true, laidKinds := [.data, .data, .data, .data, .sentinel, .sentinel, .pinned], laidTests := true, laidLooks := .later }
def ShowAgainCardSaid : Prop := Claim7.holds Tryz.pinned (.plain (OpenSpec.ofChange showAgainSpec)) showAgainCard

/-- THE SECOND FORM's CARD OF 'reparteelaw14.ParseReads'. -/
def parseReadsUptoCard : Claim7 := { stood := { row := parseReadsUptoRow, standIns := [], harness := (true, "0b01595e118a55073da018ae66dfb9e6f53c3806d4b02ab52a1a2c31ee48a03b"), looks := true }, kinds := [], alts := [], laidByText := true, laidKinds := [.data, .data, .data, .data, .sentinel, .sentinel, .pinned], laidTests := true, laidLooks := .later }
def ParseReadsUptoCardSaid : Prop := Claim7.holds Tryz.pinned (.plain (OpenSpec.upto parseReadsSpec)) parseReadsUptoCard

/-- THE SECOND FORM's CARD OF 'reparteelaw14.ParseLines'. -/
def parseLinesUptoCard : Claim7 := { stood := { row := parseLinesUptoRow, standIns := [], harness := (true, "0b01595e118a55073da018ae66dfb9e6f53c3806d4b02ab52a1a2c31ee48a03b"), looks := true }, kinds := [], alts := [], laidByText := true, laidKinds := [.data, .data, .data, .data, .sentinel, .sentinel, .pinned], laidTests := true, laidLooks := .later }
def ParseLinesUptoCardSaid : Prop := Claim7.holds Tryz.pinned (.plain (OpenSpec.upto parseLinesSpec)) parseLinesUptoCard

/-- THE SECOND FORM's CARD OF 'reparteelaw14.ParseLong'. -/
def parseLongUptoCard : Claim7 := { stood := { row := parseLongUptoRow, standIns := [], harness := (true, "0b01595e118a55073da018ae66dfb9e6f53c3806d4b02ab52a1a2c31ee48a03b"), looks := true }, kinds := [], alts := [], laidByText := true, laidKinds := [.data, .data, .data, .data, .sentinel, .sentinel, .pinned], laidTests := true, laidLooks := .later }
def ParseLongUptoCardSaid : Prop := Claim7.holds Tryz.pinned (.plain (OpenSpec.upto parseLongSpec)) parseLongUptoCard

/-- THE SECOND FORM's CARD OF 'reparteelaw17.LoadApart'. -/
def loadApartUptoCard : Claim7 := { stood := { row := loadApartUptoRow, standIns := [], harness := (true, "0b01595e118a55073da018ae66dfb9e6f53c3806d4b02ab52a1a2c31ee48a03b"), looks := true }, kinds := [], alts := [], laidByText := true, laidKinds := [.data, .data, .data, .data, .sentinel, .sentinel, .pinned], laidTests := true, laidLooks := .later }
def LoadApartUptoCardSaid : Prop := Claim7.holds Tryz.pinned (.plain (OpenSpec.upto loadApartSpec)) loadApartUptoCard

/-- THE SECOND FORM's CARD OF 'reparteelaw17.LoadLong'. -/
def loadLongUptoCard : Claim7 := { stood := { row := loadLongUptoRow, standIns := [], harness := (true, "0b01595e118a55073da018ae66dfb9e6f53c3806d4b02ab52a1a2c31ee48a03b"), looks := true }, kinds := [], alts := [], laidByText := true, laidKinds := [.data, .data, .data, .data, .sentinel, .sentinel, .pinned], laidTests := true, laidLooks := .later }
def LoadLongUptoCardSaid : Prop := Claim7.holds Tryz.pinned (.plain (OpenSpec.upto loadLongSpec)) loadLongUptoCard

/-- THE SECOND FORM's CARD OF 'reparteelaw17.LoadReads'. -/
def loadReadsUptoCard : Claim7 := { stood := { row := loadReadsUptoRow, standIns := [], harness := (true, "0b01595e118a55073da018ae66dfb9e6f53c3806d4b02ab52a1a2c31ee48a03b"), looks := true }, kinds := [], alts := [], laidByText := true, laidKinds := [.data, .data, .data, .data, .sentinel, .sentinel, .pinned], laidTests := true, laidLooks := .later }
def LoadReadsUptoCardSaid : Prop := Claim7.holds Tryz.pinned (.plain (OpenSpec.upto loadReadsSpec)) loadReadsUptoCard

/-- THE SECOND FORM's CARD OF 'reparteelaw17.LoadFaults'. -/
def loadFaultsUptoCard : Claim7 := { stood := { row := loadFaultsUptoRow, standIns := [], harness := (true, "0b01595e118a55073da018ae66dfb9e6f53c3806d4b02ab52a1a2c31ee48a03b"), looks := true }, kinds := [], alts := [], laidByText := true, laidKinds := [.data, .data, .data, .data, .handle, .sentinel, .sentinel, .pinned], laidTests := true, laidLooks := .later }
def LoadFaultsUptoCardSaid : Prop := Claim7.holds Tryz.pinned (.plain (OpenSpec.upto loadFaultsSpec)) loadFaultsUptoCard

/-- THE SECOND FORM's CARD OF 'reparteelaw15.ShowBack'. -/
def showBackUptoCard : Claim7 := { stood := { row := showBackUptoRow, standIns := [], harness := (true, "0b01595e118a55073da018ae66dfb9e6f53c3806d4b02ab52a1a2c31ee48a03b"), looks := true }, kinds := [], alts := [], laidByText := true, laidKinds := [.data, .data, .data, .data, .sentinel, .sentinel, .pinned], laidTests := true, laidLooks := .later }
def ShowBackUptoCardSaid : Prop := Claim7.holds Tryz.pinned (.plain (OpenSpec.upto showBackSpec)) showBackUptoCard

/-- THE SECOND FORM's CARD OF 'reparteelaw15.ShowAgain'. -/
def showAgainUptoCard : Claim7 := { stood := { row := showAgainUptoRow, standIns := [], harness := (true, "0b01595e118a55073da018ae66dfb9e6f53c3806d4b02ab52a1a2c31ee48a03b"), looks := true }, kinds := [], alts := [], laidByText := true, laidKinds := [.data, .data, .data, .data, .sentinel, .sentinel, .pinned], laidTests := true, laidLooks := .later }
def ShowAgainUptoCardSaid : Prop := Claim7.holds Tryz.pinned (.plain (OpenSpec.upto showAgainSpec)) showAgainUptoCard
end Rows
end Go.Proofs.YtaioaojfdngfdaaGreatDoor
