/-
  DERIVED. GIVEN WITH THE SEED: THE CARDS: each row of YtmeneoanmfpecaaDoorRows.lean that lists a variable, with what it lists TIED to the program's text (the seventh form; the later family's looks); each row that meets fmt, with fmt's text TOLD by the authors' own Lean function (tested against real Go, not proved from fmt's source: count such statements apart). THE CARD IS WHAT COUNTS. Prove the row's statement (the work); the ties are given (YtmeneoanmfpecaaDoorTie.lean); close each card by the builder's one call (the guide's Derived/Test/ToyasCard.lean, 'card_holds'). Laid BY PROGRAM, IN A SANDBOX (cutbox-door.mjs). By AI agents, Wed Nov 11 2026. No macro, syntax, notation, axiom, sorry.
-/
import Derived.Test.YtmeneoanmfpecaaDoorRows
import GoSem.ClaimSeven
namespace Go.Proofs.YtmeneoanmfpecaaDoor
namespace Rows

/-- THE TIED CARD OF 'hearsaylaw40.TraceWrites'. -/
def traceWritesCard : Claim7 := { stood := { row := traceWritesRow, standIns := [], harness := (true, "eaf3681e6aad73b50de7aaf2c799dfc40c400763faaabbe2a71e594697351f26"), looks := true }, kinds := [], alts := [], laidByText := true, laidKinds := [.data], laidTests := true, laidLooks := .later }
def TraceWritesCardSaid : Prop := Claim7.holds Tryd.pinned (.plain (OpenSpec.ofChange traceWritesSpec)) traceWritesCard

/-- THE TIED CARD OF 'hearsaylaw40.TraceReads'. -/
def traceReadsCard : Claim7 := { stood := { row := traceReadsRow, standIns := [], harness := (true, "eaf3681e6aad73b50de7aaf2c799dfc40c400763faaabbe2a71e594697351f26"), looks := true }, kinds := [], alts := [], laidByText := true, laidKinds := [.data], laidTests := true, laidLooks := .later }
def TraceReadsCardSaid : Prop := Claim7.holds Tryd.pinned (.plain (OpenSpec.ofChange traceReadsSpec)) traceReadsCard

/-- THE TIED CARD OF 'hearsaylaw40.TraceBack'. -/
def traceBackCard : Claim7 := { stood := { row := traceBackRow, standIns := [], harness := (true, "eaf3681e6aad73b50de7aaf2c799dfc40c400763faaabbe2a71e594697351f26"), looks := true }, kinds := [], alts := [], laidByText := true, laidKinds := [.data], laidTests := true, laidLooks := .later }
def TraceBackCardSaid : Prop := Claim7.holds Tryd.pinned (.plain (OpenSpec.ofChange traceBackSpec)) traceBackCard

/-- THE TIED CARD OF 'hearsaylaw38.ShowEvents'. -/
def showEventsCard : Claim7 := { stood := { row := showEventsRow, standIns := [], harness := (true, "eaf3681e6aad73b50de7aaf2c799dfc40c400763faaabbe2a71e594697351f26"), looks := true }, kinds := [], alts := [], laidByText := true, laidKinds := [.data, .data, .data, .listed, .data, .data], laidTests := true, laidLooks := .later }
def ShowEventsCardSaid : Prop := Claim7.holds Tryd.pinned (.plain (OpenSpec.ofChange showEventsSpec)) showEventsCard

/-- THE TIED CARD OF 'hearsaylaw38.ShowApart'. -/
def showApartCard : Claim7 := { stood := { row := showApartRow, standIns := [], harness := (true, "eaf3681e6aad73b50de7aaf2c799dfc40c400763faaabbe2a71e594697351f26"), looks := true }, kinds := [], alts := [], laidByText := true, laidKinds := [.data, .data, .data, .listed, .data, .data], laidTests := true, laidLooks := .later }
def ShowApartCardSaid : Prop := Claim7.holds Tryd.pinned (.plain (OpenSpec.ofChange showApartSpec)) showApartCard

/-- THE TIED CARD OF 'hearsaylaw38.ShowParts'. -/
def showPartsCard : Claim7 := { stood := { row := showPartsRow, standIns := [], harness := (true, "eaf3681e6aad73b50de7aaf2c799dfc40c400763faaabbe2a71e594697351f26"), looks := true }, kinds := [], alts := [], laidByText := true, laidKinds := [.data, .data, .data, .listed, .data, .data], laidTests := true, laidLooks := .later }
def ShowPartsCardSaid : Prop := Claim7.holds Tryd.pinned (.plain (OpenSpec.ofChange showPartsSpec)) showPartsCard

/-- THE TIED CARD OF 'hearsaylaw37.LinesQuotes'. -/
def linesQuotesCard : Claim7 := { stood := { row := linesQuotesRow, standIns := [], harness := (true, "eaf3681e6aad73b50de7aaf2c799dfc40c400763faaabbe2a71e594697351f26"), looks := true }, kinds := [], alts := [], laidByText := true, laidKinds := [.data, .data, .data, .sentinel, .sentinel, .listed, .data, .data], laidTests := true, laidLooks := .later }
def LinesQuotesCardSaid : Prop := Claim7.holds Tryd.pinned (.plain (OpenSpec.ofChange linesQuotesSpec)) linesQuotesCard

/-- THE TIED CARD OF 'hearsaylaw37.LinesLine'. -/
def linesLineCard : Claim7 := { stood := { row := linesLineRow, standIns := [], harness := (true, "eaf3681e6aad73b50de7aaf2c799dfc40c400763faaabbe2a71e594697351f26"), looks := true }, kinds := [], alts := [], laidByText := true, laidKinds := [.data, .data, .data, .sentinel, .sentinel, .listed, .data, .data], laidTests := true, laidLooks := .later }
def LinesLineCardSaid : Prop := Claim7.holds Tryd.pinned (.plain (OpenSpec.ofChange linesLineSpec)) linesLineCard

/-- THE TIED CARD OF 'hearsaylaw37.LinesReads'. -/
def linesReadsCard : Claim7 := { stood := { row := linesReadsRow, standIns := [], harness := (true, "eaf3681e6aad73b50de7aaf2c799dfc40c400763faaabbe2a71e594697351f26"), looks := true }, kinds := [], alts := [], laidByText := true, laidKinds := [.data, .data, .data, .sentinel, .sentinel, .listed, .data, .data], laidTests := true, laidLooks := .later }
def LinesReadsCardSaid : Prop := Claim7.holds Tryd.pinned (.plain (OpenSpec.ofChange linesReadsSpec)) linesReadsCard

/-- THE TIED CARD OF 'hearsaylaw37.LinesScript'. -/
def linesScriptCard : Claim7 := { stood := { row := linesScriptRow, standIns := [], harness := (true, "eaf3681e6aad73b50de7aaf2c799dfc40c400763faaabbe2a71e594697351f26"), looks := true }, kinds := [], alts := [], laidByText := true, laidKinds := [.data, .data, .data, .data, .sentinel, .sentinel, .listed, .data, .data, .pinned], laidTests := true, laidLooks := .later }
def LinesScriptCardSaid : Prop := Claim7.holds Tryd.pinned (.plain (OpenSpec.ofChange linesScriptSpec)) linesScriptCard

/-- THE SECOND FORM's CARD OF 'hearsaylaw40.TraceWrites'. -/
def traceWritesUptoCard : Claim7 := { stood := { row := traceWritesUptoRow, standIns := [], harness := (true, "eaf3681e6aad73b50de7aaf2c799dfc40c400763faaabbe2a71e594697351f26"), looks := true }, kinds := [], alts := [], laidByText := true, laidKinds := [.data], laidTests := true, laidLooks := .later }
def TraceWritesUptoCardSaid : Prop := Claim7.holds Tryd.pinned (.plain (OpenSpec.upto traceWritesSpec)) traceWritesUptoCard

/-- THE SECOND FORM's CARD OF 'hearsaylaw40.TraceReads'. -/
def traceReadsUptoCard : Claim7 := { stood := { row := traceReadsUptoRow, standIns := [], harness := (true, "eaf3681e6aad73b50de7aaf2c799dfc40c400763faaabbe2a71e594697351f26"), looks := true }, kinds := [], alts := [], laidByText := true, laidKinds := [.data], laidTests := true, laidLooks := .later }
def TraceReadsUptoCardSaid : Prop := Claim7.holds Tryd.pinned (.plain (OpenSpec.upto traceReadsSpec)) traceReadsUptoCard

/-- THE SECOND FORM's CARD OF 'hearsaylaw40.TraceBack'. -/
def traceBackUptoCard : Claim7 := { stood := { row := traceBackUptoRow, standIns := [], harness := (true, "eaf3681e6aad73b50de7aaf2c799dfc40c400763faaabbe2a71e594697351f26"), looks := true }, kinds := [], alts := [], laidByText := true, laidKinds := [.data], laidTests := true, laidLooks := .later }
def TraceBackUptoCardSaid : Prop := Claim7.holds Tryd.pinned (.plain (OpenSpec.upto traceBackSpec)) traceBackUptoCard

/-- THE SECOND FORM's CARD OF 'hearsaylaw38.ShowEvents'. -/
def showEventsUptoCard : Claim7 := { stood := { row := showEventsUptoRow, standIns := [], harness := (true, "eaf3681e6aad73b50de7aaf2c799dfc40c400763faaabbe2a71e594697351f26"), looks := true }, kinds := [], alts := [], laidByText := true, laidKinds := [.data, .data, .data, .listed, .data, .data], laidTests := true, laidLooks := .later }
def ShowEventsUptoCardSaid : Prop := Claim7.holds Tryd.pinned (.plain (OpenSpec.upto showEventsSpec)) showEventsUptoCard

/-- THE SECOND FORM's CARD OF 'hearsaylaw38.ShowApart'. -/
def showApartUptoCard : Claim7 := { stood := { row := showApartUptoRow, standIns := [], harness := (true, "eaf3681e6aad73b50de7aaf2c799dfc40c400763faaabbe2a71e594697351f26"), looks := true }, kinds := [], alts := [], laidByText := true, laidKinds := [.data, .data, .data, .listed, .data, .data], laidTests := true, laidLooks := .later }
def ShowApartUptoCardSaid : Prop := Claim7.holds Tryd.pinned (.plain (OpenSpec.upto showApartSpec)) showApartUptoCard

/-- THE SECOND FORM's CARD OF 'hearsaylaw38.ShowParts'. -/
def showPartsUptoCard : Claim7 := { stood := { row := showPartsUptoRow, standIns := [], harness := (true, "eaf3681e6aad73b50de7aaf2c799dfc40c400763faaabbe2a71e594697351f26"), looks := true }, kinds := [], alts := [], laidByText := true, laidKinds := [.data, .data, .data, .listed, .data, .data], laidTests := true, laidLooks := .later }
def ShowPartsUptoCardSaid : Prop := Claim7.holds Tryd.pinned (.plain (OpenSpec.upto showPartsSpec)) showPartsUptoCard

/-- THE SECOND FORM's CARD OF 'hearsaylaw37.LinesQuotes'. -/
def linesQuotesUptoCard : Claim7 := { stood := { row := linesQuotesUptoRow, standIns := [], harness := (true, "eaf3681e6aad73b50de7aaf2c799dfc40c400763faaabbe2a71e594697351f26"), looks := true }, kinds := [], alts := [], laidByText := true, laidKinds := [.data, .data, .data, .sentinel, .sentinel, .listed, .data, .data], laidTests := true, laidLooks := .later }
def LinesQuotesUptoCardSaid : Prop := Claim7.holds Tryd.pinned (.plain (OpenSpec.upto linesQuotesSpec)) linesQuotesUptoCard

/-- THE SECOND FORM's CARD OF 'hearsaylaw37.LinesLine'. -/
def linesLineUptoCard : Claim7 := { stood := { row := linesLineUptoRow, standIns := [], harness := (true, "eaf3681e6aad73b50de7aaf2c799dfc40c400763faaabbe2a71e594697351f26"), looks := true }, kinds := [], alts := [], laidByText := true, laidKinds := [.data, .data, .data, .sentinel, .sentinel, .listed, .data, .data], laidTests := true, laidLooks := .later }
def LinesLineUptoCardSaid : Prop := Claim7.holds Tryd.pinned (.plain (OpenSpec.upto linesLineSpec)) linesLineUptoCard

/-- THE SECOND FORM's CARD OF 'hearsaylaw37.LinesReads'. -/
def linesReadsUptoCard : Claim7 := { stood := { row := linesReadsUptoRow, standIns := [], harness := (true, "eaf3681e6aad73b50de7aaf2c799dfc40c400763faaabbe2a71e594697351f26"), looks := true }, kinds := [], alts := [], laidByText := true, laidKinds := [.data, .data, .data, .sentinel, .sentinel, .listed, .data, .data], laidTests := true, laidLooks := .later }
def LinesReadsUptoCardSaid : Prop := Claim7.holds Tryd.pinned (.plain (OpenSpec.upto linesReadsSpec)) linesReadsUptoCard

/-- THE SECOND FORM's CARD OF 'hearsaylaw37.LinesScript'. -/
def linesScriptUptoCard : Claim7 := { stood := { row := linesScriptUptoRow, standIns := [], harness := (true, "eaf3681e6aad73b50de7aaf2c799dfc40c400763faaabbe2a71e594697351f26"), looks := true }, kinds := [], alts := [], laidByText := true, laidKinds := [.data, .data, .data, .data, .sentinel, .sentinel, .listed, .data, .data, .pinned], laidTests := true, laidLooks := .later }
def LinesScriptUptoCardSaid : Prop := Claim7.holds Tryd.pinned (.plain (OpenSpec.upto linesScriptSpec)) linesScriptUptoCard
end Rows
end Go.Proofs.YtmeneoanmfpecaaDoor
