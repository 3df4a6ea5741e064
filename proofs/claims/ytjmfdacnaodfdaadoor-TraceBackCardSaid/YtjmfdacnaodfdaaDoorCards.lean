/-
  DERIVED. GIVEN WITH THE SEED: THE CARDS: each row of YtjmfdacnaodfdaaDoorRows.lean that lists a variable, with what it lists TIED to the program's text (the seventh form; the later family's looks); each row that meets fmt, with fmt's text TOLD by the authors' own Lean function (tested against real Go, not proved from fmt's source: count such statements apart). THE CARD IS WHAT COUNTS. Prove the row's statement (the work); the ties are given (YtjmfdacnaodfdaaDoorTie.lean); close each card by the builder's one call (the guide's Derived/Test/ToyasCard.lean, 'card_holds'). Laid BY PROGRAM, IN A SANDBOX (cutbox-door.mjs). By AI agents, Wed Nov 11 2026. No macro, syntax, notation, axiom, sorry.
-/
import Derived.Test.YtjmfdacnaodfdaaDoorRows
import GoSem.ClaimSeven
namespace Go.Proofs.YtjmfdacnaodfdaaDoor
namespace Rows

/-- THE TIED CARD OF 'hearsaylaw40.TraceWrites'. -/
def traceWritesCard : Claim7 := { stood := { row := traceWritesRow, standIns := [], harness := (true, "7199814033fe264a51143e1c9e21861337c9ee31607889f8e11c333eef485c12"), looks := true }, kinds := [], alts := [], laidByText := true, laidKinds := [.data], laidTests := true, laidLooks := .later }
def TraceWritesCardSaid : Prop := Claim7.holds Tryd.pinned (.plain (OpenSpec.ofChange traceWritesSpec)) traceWritesCard

/-- THE TIED CARD OF 'hearsaylaw40.TraceReads'. -/
def traceReadsCard : Claim7 := { stood := { row := traceReadsRow, standIns := [], harness := (true, "7199814033fe264a51143e1c9e21861337c9ee31607889f8e11c333eef485c12"), looks := true }, kinds := [], alts := [], laidByText := true, laidKinds := [.data], laidTests := true, laidLooks := .later }
def TraceReadsCardSaid : Prop := Claim7.holds Tryd.pinned (.plain (OpenSpec.ofChange traceReadsSpec)) traceReadsCard

/-- THE TIED CARD OF 'hearsaylaw40.TraceBack'. -/
def traceBackCard : Claim7 := { stood := { row := traceBackRow, standIns := [], harness := (true, "7199814033fe264a51143e1c9e21861337c9ee31607889f8e11c333eef485c12"), looks := true }, kinds := [], alts := [], laidByText := true, laidKinds := [.data], laidTests := true, laidLooks := .later }
def TraceBackCardSaid : Prop := Claim7.holds Tryd.pinned (.plain (OpenSpec.ofChange traceBackSpec)) traceBackCard

/-- THE SECOND FORM's CARD OF 'hearsaylaw40.TraceWrites'. -/
def traceWritesUptoCard : Claim7 := { stood := { row := traceWritesUptoRow, standIns := [], harness := (true, "7199814033fe264a51143e1c9e21861337c9ee31607889f8e11c333eef485c12"), looks := true }, kinds := [], alts := [], laidByText := true, laidKinds := [.data], laidTests := true, laidLooks := .later }
def TraceWritesUptoCardSaid : Prop := Claim7.holds Tryd.pinned (.plain (OpenSpec.upto traceWritesSpec)) traceWritesUptoCard

/-- THE SECOND FORM's CARD OF 'hearsaylaw40.TraceReads'. -/
def traceReadsUptoCard : Claim7 := { stood := { row := traceReadsUptoRow, standIns := [], harness := (true, "7199814033fe264a51143e1c9e21861337c9ee31607889f8e11c333eef485c12"), looks := true }, kinds := [], alts := [], laidByText := true, laidKinds := [.data], laidTests := true, laidLooks := .later }
def TraceReadsUptoCardSaid : Prop := Claim7.holds Tryd.pinned (.plain (OpenSpec.upto traceReadsSpec)) traceReadsUptoCard

/-- THE SECOND FORM's CARD OF 'hearsaylaw40.TraceBack'. -/
def traceBackUptoCard : Claim7 := { stood := { row := traceBackUptoRow, standIns := [], harness := (true, "7199814033fe264a51143e1c9e21861337c9ee31607889f8e11c333eef485c12"), looks := true }, kinds := [], alts := [], laidByText := true, laidKinds := [.data], laidTests := true, laidLooks := .later }
def TraceBackUptoCardSaid : Prop := Claim7.holds Tryd.pinned (.plain (OpenSpec.upto traceBackSpec)) traceBackUptoCard
end Rows
end Go.Proofs.YtjmfdacnaodfdaaDoor
