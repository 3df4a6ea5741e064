/-
  NARROWER THAN 'FOR EVERY INPUT', by the rows' own cells (each row's printed sentence says how): TraceWrites: laid · TraceReads: laid · TraceBack: laid.
  DERIVED. THE GIVEN ROWS OF THIS SEAT. 3 by the template 'for every input the law returns true; each argument reads behind the call as it read before'; 0 by the template 'total and deterministic' (their statements: YtjmfdacnaodfdaaDoorTotals.lean).
  GIVEN WITH THE SEED: the statements are not yours to turn. If you find one false, say at which input.
  Laid BY PROGRAM, IN A SANDBOX (cutbox-rows.mjs): the forced cells as the released guide's own fill.sh prints them over the translation c21913de5b6e27fc… (all of the seat's roots in one cut). By AI agents, Wed Nov 11 2026. No macro, syntax, notation, axiom, sorry.
-/
import Derived.Test.YtjmfdacnaodfdaaDoorChecked
import GoSem.Claim
import GoSem.ClaimJoined
import GoSem.ClaimMapViews
import Derived.JoinedTies
import Derived.KernelRfl
namespace Go.Proofs.YtjmfdacnaodfdaaDoor
/- THE CELL 'sum', in the pinned program and in every row, IS THE sha256 OF THE DUMP (.gsa) THAT YtjmfdacnaodfdaaDoorProg.lean LOADS. Nothing in Lean hashes anything: it is a label: what it is worth is what the hold of that sum in a sandbox is worth. -/
noncomputable def Tryd.pinned : Pinned := { name := "ytjmfdacnaodfdaadoor", sum := "c21913de5b6e27fc64e56a87931321a66e774da7efb6cfe1549fe402af2ce703", checked := Tryd.checked }
namespace Rows
def none {H : Type} : Left H := { results := [], args := [] }

/- WHAT THE LISTED PACKAGE-LEVEL VARIABLES READ AS WHEN THE CALL BEGINS. Each datum BY PROGRAM (the guide's laid-datum.mjs) off the statement by which the dump's own 'gosem.cut.vars' lays the variable. In a bare row this is a premise. The card (YtjmfdacnaodfdaaDoorCards.lean) ties it to the program's text. -/
def laid_hearsay_ops_fields {H : Type} : DataW H := .agg [.lit (.int .i64 48), .lit (.int .i64 16), .lit (.int .i64 2), .lit (.int .i64 2), .lit (.int .i64 3), .lit (.int .i64 3), .lit (.int .i64 3), .lit (.int .i64 15), .lit (.int .i64 2), .lit (.int .i64 6), .lit (.int .i64 0), .lit (.int .i64 0), .lit (.int .i64 0)]

/-- 'hearsaylaw40.TraceWrites': WHATEVER THE INPUT: true; the input reads as it did. -/
def traceWritesSpec : ChangeSpec := { name := "traceWrites", fn := fun _ => fun
  | [d] => { results := [.lit (.bool true)], args := [d] }
  | _ => none }
def traceWritesRow : OpenClaim := { program := "ytjmfdacnaodfdaadoor", sum := "c21913de5b6e27fc64e56a87931321a66e774da7efb6cfe1549fe402af2ce703", func := "hearsay/hearsaylaw40.TraceWrites", spec := "traceWrites", inPlace := ["internal/abi.NoEscape"], unfollowed := true, recurses := true, named := ["hearsay/ops.fields"], apart := false, laid := [("hearsay/ops.fields", laid_hearsay_ops_fields)] }
def TraceWritesSaid : Prop := traceWritesRow.holds Tryd.pinned (OpenSpec.ofChange traceWritesSpec)

/-- ITS FALSE NEIGHBOUR: 'it returns false'. Refute it at one input. -/
def traceWritesWrong : ChangeSpec := { name := "traceWrites", fn := fun _ => fun
  | [d] => { results := [.lit (.bool false)], args := [d] }
  | _ => none }
def TraceWritesWrongFalsely : Prop := traceWritesRow.holds Tryd.pinned (OpenSpec.ofChange traceWritesWrong)

/-- 'hearsaylaw40.TraceReads': WHATEVER THE INPUT: true; the input reads as it did. -/
def traceReadsSpec : ChangeSpec := { name := "traceReads", fn := fun _ => fun
  | [d] => { results := [.lit (.bool true)], args := [d] }
  | _ => none }
def traceReadsRow : OpenClaim := { program := "ytjmfdacnaodfdaadoor", sum := "c21913de5b6e27fc64e56a87931321a66e774da7efb6cfe1549fe402af2ce703", func := "hearsay/hearsaylaw40.TraceReads", spec := "traceReads", inPlace := ["internal/abi.NoEscape"], unfollowed := true, recurses := true, named := ["hearsay/ops.fields"], apart := false, laid := [("hearsay/ops.fields", laid_hearsay_ops_fields)] }
def TraceReadsSaid : Prop := traceReadsRow.holds Tryd.pinned (OpenSpec.ofChange traceReadsSpec)

/-- ITS FALSE NEIGHBOUR: 'it returns false'. Refute it at one input. -/
def traceReadsWrong : ChangeSpec := { name := "traceReads", fn := fun _ => fun
  | [d] => { results := [.lit (.bool false)], args := [d] }
  | _ => none }
def TraceReadsWrongFalsely : Prop := traceReadsRow.holds Tryd.pinned (OpenSpec.ofChange traceReadsWrong)

/-- 'hearsaylaw40.TraceBack': WHATEVER THE INPUT: true; the input reads as it did. -/
def traceBackSpec : ChangeSpec := { name := "traceBack", fn := fun _ => fun
  | [d1, d2] => { results := [.lit (.bool true)], args := [d1, d2] }
  | _ => none }
def traceBackRow : OpenClaim := { program := "ytjmfdacnaodfdaadoor", sum := "c21913de5b6e27fc64e56a87931321a66e774da7efb6cfe1549fe402af2ce703", func := "hearsay/hearsaylaw40.TraceBack", spec := "traceBack", inPlace := ["internal/abi.NoEscape"], unfollowed := true, recurses := true, named := ["hearsay/ops.fields"], apart := false, laid := [("hearsay/ops.fields", laid_hearsay_ops_fields)] }
def TraceBackSaid : Prop := traceBackRow.holds Tryd.pinned (OpenSpec.ofChange traceBackSpec)

/-- ITS FALSE NEIGHBOUR: 'it returns false'. Refute it at one input. -/
def traceBackWrong : ChangeSpec := { name := "traceBack", fn := fun _ => fun
  | [d1, d2] => { results := [.lit (.bool false)], args := [d1, d2] }
  | _ => none }
def TraceBackWrongFalsely : Prop := traceBackRow.holds Tryd.pinned (OpenSpec.ofChange traceBackWrong)

/- THE SECOND FORM. 'bulk': how many values and letters a reading holds, each counted each time it is reached (what is shared counts as often as it is met; a slice's spare places count too). A statement '..UptoSaid' is the law's where the arguments, and the package variables that the reading takes, are together of bulk at most 1048576: NARROWER than '..Said'. Prove '..Said' where nothing that the law and all that it calls make is longer than what came in: it says more and counts as full. Else prove '..UptoSaid'. A law counts once. -/
mutual
def uptoBulk {H : Type} : DataW H → Nat
  | .lit (.string bytes) => bytes.length + 1
  | .lit _ => 1
  | .nil => 1
  | .ptr d => uptoBulk d + 1
  | .slice elems spare => uptoBulkAll elems + uptoBulkAll spare + 1
  | .agg parts => uptoBulkAll parts + 1
  | .iface _ d => uptoBulk d + 1
  | .map entries => uptoBulkEntries entries + 1
  | .held _ => 1
def uptoBulkAll {H : Type} : List (DataW H) → Nat
  | [] => 0
  | d :: r => uptoBulk d + uptoBulkAll r
def uptoBulkEntries {H : Type} : List (Lit × DataW H) → Nat
  | [] => 0
  | x :: r => uptoBulkEntry x + uptoBulkEntries r
def uptoBulkEntry {H : Type} : Lit × DataW H → Nat
  | (.string bytes, d) => bytes.length + uptoBulk d + 1
  | (_, d) => uptoBulk d + 1
 end
def uptoSmall : (H : Type) → List (DataW H) → Bool := fun _ ds => decide (uptoBulkAll ds ≤ 1048576)
def OpenSpec.upto (s : _root_.Go.ChangeSpec) : _root_.Go.OpenSpec := { _root_.Go.OpenSpec.ofChange s with cond := some uptoSmall }

/-- 'hearsaylaw40.TraceWrites', WHERE WHAT IT READS IS OF BULK AT MOST 1048576: true; the input reads as it did. -/
def traceWritesUptoRow : OpenClaim := { program := "ytjmfdacnaodfdaadoor", sum := "c21913de5b6e27fc64e56a87931321a66e774da7efb6cfe1549fe402af2ce703", func := "hearsay/hearsaylaw40.TraceWrites", spec := "traceWrites", inPlace := ["internal/abi.NoEscape"], unfollowed := true, recurses := true, named := ["hearsay/ops.fields"], apart := false, laid := [("hearsay/ops.fields", laid_hearsay_ops_fields)], narrowed := true }
def TraceWritesUptoSaid : Prop := traceWritesUptoRow.holds Tryd.pinned (OpenSpec.upto traceWritesSpec)

/-- 'hearsaylaw40.TraceReads', WHERE WHAT IT READS IS OF BULK AT MOST 1048576: true; the input reads as it did. -/
def traceReadsUptoRow : OpenClaim := { program := "ytjmfdacnaodfdaadoor", sum := "c21913de5b6e27fc64e56a87931321a66e774da7efb6cfe1549fe402af2ce703", func := "hearsay/hearsaylaw40.TraceReads", spec := "traceReads", inPlace := ["internal/abi.NoEscape"], unfollowed := true, recurses := true, named := ["hearsay/ops.fields"], apart := false, laid := [("hearsay/ops.fields", laid_hearsay_ops_fields)], narrowed := true }
def TraceReadsUptoSaid : Prop := traceReadsUptoRow.holds Tryd.pinned (OpenSpec.upto traceReadsSpec)

/-- 'hearsaylaw40.TraceBack', WHERE WHAT IT READS IS OF BULK AT MOST 1048576: true; the input reads as it did. -/
def traceBackUptoRow : OpenClaim := { program := "ytjmfdacnaodfdaadoor", sum := "c21913de5b6e27fc64e56a87931321a66e774da7efb6cfe1549fe402af2ce703", func := "hearsay/hearsaylaw40.TraceBack", spec := "traceBack", inPlace := ["internal/abi.NoEscape"], unfollowed := true, recurses := true, named := ["hearsay/ops.fields"], apart := false, laid := [("hearsay/ops.fields", laid_hearsay_ops_fields)], narrowed := true }
def TraceBackUptoSaid : Prop := traceBackUptoRow.holds Tryd.pinned (OpenSpec.upto traceBackSpec)

end Rows
end Go.Proofs.YtjmfdacnaodfdaaDoor
