/-
  No cell of these rows narrows 'for every input' (looked for: loops, veiled, ifaces, maps, wideKeys, modest, calm, conditions, laid).
  DERIVED. THE GIVEN ROWS OF THIS SEAT. 8 by the template 'for every input the law returns true; each argument reads behind the call as it read before'; 0 by the template 'total and deterministic' (their statements: YtnnmhpplmihidaaTotals.lean).
  GIVEN WITH THE SEED: the statements are not yours to turn. If you find one false, say at which input.
  Laid BY PROGRAM, IN A SANDBOX (cutbox-rows.mjs): the forced cells as the released guide's own fill.sh prints them over the translation 5b8880074772b0df… (all of the seat's roots in one cut). By AI agents, Wed Nov 11 2026. No macro, syntax, notation, axiom, sorry.
-/
import Derived.Test.YtnnmhpplmihidaaChecked
import GoSem.Claim
import GoSem.ClaimJoined
import GoSem.ClaimMapViews
import Derived.JoinedTies
import Derived.KernelRfl
namespace Go.Proofs.Ytnnmhpplmihidaa
/- THE CELL 'sum', in the pinned program and in every row, IS THE sha256 OF THE DUMP (.gsa) THAT YtnnmhpplmihidaaProg.lean LOADS. Nothing in Lean hashes anything: it is a label: what it is worth is what the hold of that sum in a sandbox is worth. -/
noncomputable def Try.pinned : Pinned := { name := "ytnnmhpplmihidaa", sum := "5b8880074772b0dfd55c696413b77496fef191db1852fa4350d807a622e05adc", checked := Try.checked }
namespace Rows
def none {H : Type} : Left H := { results := [], args := [] }

/-- 'hearsaylaw09.DiceOrders': WHATEVER THE INPUT: true; the input reads as it did. -/
def diceOrdersSpec : ChangeSpec := { name := "diceOrders", fn := fun _ => fun
  | [d1, d2] => { results := [.lit (.bool true)], args := [d1, d2] }
  | _ => none }
def diceOrdersRow : OpenClaim := { program := "ytnnmhpplmihidaa", sum := "5b8880074772b0dfd55c696413b77496fef191db1852fa4350d807a622e05adc", func := "hearsay/hearsaylaw09.DiceOrders", spec := "diceOrders", unfollowed := true, recurses := true, plainKeys := false, apart := false }
def DiceOrdersSaid : Prop := diceOrdersRow.holds Try.pinned (OpenSpec.ofChange diceOrdersSpec)

/-- ITS FALSE NEIGHBOUR: 'it returns false'. Refute it at one input. -/
def diceOrdersWrong : ChangeSpec := { name := "diceOrders", fn := fun _ => fun
  | [d1, d2] => { results := [.lit (.bool false)], args := [d1, d2] }
  | _ => none }
def DiceOrdersWrongFalsely : Prop := diceOrdersRow.holds Try.pinned (OpenSpec.ofChange diceOrdersWrong)

/-- 'hearsaylaw09.DiceOnce': WHATEVER THE INPUT: true; the input reads as it did. -/
def diceOnceSpec : ChangeSpec := { name := "diceOnce", fn := fun _ => fun
  | [d1, d2] => { results := [.lit (.bool true)], args := [d1, d2] }
  | _ => none }
def diceOnceRow : OpenClaim := { program := "ytnnmhpplmihidaa", sum := "5b8880074772b0dfd55c696413b77496fef191db1852fa4350d807a622e05adc", func := "hearsay/hearsaylaw09.DiceOnce", spec := "diceOnce", unfollowed := true, recurses := true, plainKeys := false, apart := false }
def DiceOnceSaid : Prop := diceOnceRow.holds Try.pinned (OpenSpec.ofChange diceOnceSpec)

/-- ITS FALSE NEIGHBOUR: 'it returns false'. Refute it at one input. -/
def diceOnceWrong : ChangeSpec := { name := "diceOnce", fn := fun _ => fun
  | [d1, d2] => { results := [.lit (.bool false)], args := [d1, d2] }
  | _ => none }
def DiceOnceWrongFalsely : Prop := diceOnceRow.holds Try.pinned (OpenSpec.ofChange diceOnceWrong)

/-- 'hearsaylaw09.DiceAll': WHATEVER THE INPUT: true; the input reads as it did. -/
def diceAllSpec : ChangeSpec := { name := "diceAll", fn := fun _ => fun
  | [d] => { results := [.lit (.bool true)], args := [d] }
  | _ => none }
def diceAllRow : OpenClaim := { program := "ytnnmhpplmihidaa", sum := "5b8880074772b0dfd55c696413b77496fef191db1852fa4350d807a622e05adc", func := "hearsay/hearsaylaw09.DiceAll", spec := "diceAll", unfollowed := true, recurses := true, plainKeys := false, apart := false }
def DiceAllSaid : Prop := diceAllRow.holds Try.pinned (OpenSpec.ofChange diceAllSpec)

/-- ITS FALSE NEIGHBOUR: 'it returns false'. Refute it at one input. -/
def diceAllWrong : ChangeSpec := { name := "diceAll", fn := fun _ => fun
  | [d] => { results := [.lit (.bool false)], args := [d] }
  | _ => none }
def DiceAllWrongFalsely : Prop := diceAllRow.holds Try.pinned (OpenSpec.ofChange diceAllWrong)

/-- 'hearsaylaw09.DiceDraws': WHATEVER THE INPUT: true; the input reads as it did. -/
def diceDrawsSpec : ChangeSpec := { name := "diceDraws", fn := fun _ => fun
  | [d1, d2] => { results := [.lit (.bool true)], args := [d1, d2] }
  | _ => none }
def diceDrawsRow : OpenClaim := { program := "ytnnmhpplmihidaa", sum := "5b8880074772b0dfd55c696413b77496fef191db1852fa4350d807a622e05adc", func := "hearsay/hearsaylaw09.DiceDraws", spec := "diceDraws", unfollowed := true, recurses := true, plainKeys := false, apart := false }
def DiceDrawsSaid : Prop := diceDrawsRow.holds Try.pinned (OpenSpec.ofChange diceDrawsSpec)

/-- ITS FALSE NEIGHBOUR: 'it returns false'. Refute it at one input. -/
def diceDrawsWrong : ChangeSpec := { name := "diceDraws", fn := fun _ => fun
  | [d1, d2] => { results := [.lit (.bool false)], args := [d1, d2] }
  | _ => none }
def DiceDrawsWrongFalsely : Prop := diceDrawsRow.holds Try.pinned (OpenSpec.ofChange diceDrawsWrong)

/-- 'hearsaylaw43.ShrinkLeast': WHATEVER THE INPUT: true; the input reads as it did. -/
def shrinkLeastSpec : ChangeSpec := { name := "shrinkLeast", fn := fun _ => fun
  | [d] => { results := [.lit (.bool true)], args := [d] }
  | _ => none }
def shrinkLeastRow : OpenClaim := { program := "ytnnmhpplmihidaa", sum := "5b8880074772b0dfd55c696413b77496fef191db1852fa4350d807a622e05adc", func := "hearsay/hearsaylaw43.ShrinkLeast", spec := "shrinkLeast", unfollowed := true, recurses := true, plainKeys := false, apart := false }
def ShrinkLeastSaid : Prop := shrinkLeastRow.holds Try.pinned (OpenSpec.ofChange shrinkLeastSpec)

/-- ITS FALSE NEIGHBOUR: 'it returns false'. Refute it at one input. -/
def shrinkLeastWrong : ChangeSpec := { name := "shrinkLeast", fn := fun _ => fun
  | [d] => { results := [.lit (.bool false)], args := [d] }
  | _ => none }
def ShrinkLeastWrongFalsely : Prop := shrinkLeastRow.holds Try.pinned (OpenSpec.ofChange shrinkLeastWrong)

/-- 'hearsaylaw26.LinkOnce': WHATEVER THE INPUT: true; the input reads as it did. -/
def linkOnceSpec : ChangeSpec := { name := "linkOnce", fn := fun _ => fun
  | [d] => { results := [.lit (.bool true)], args := [d] }
  | _ => none }
def linkOnceRow : OpenClaim := { program := "ytnnmhpplmihidaa", sum := "5b8880074772b0dfd55c696413b77496fef191db1852fa4350d807a622e05adc", func := "hearsay/hearsaylaw26.LinkOnce", spec := "linkOnce", plainKeys := false, apart := false }
def LinkOnceSaid : Prop := linkOnceRow.holds Try.pinned (OpenSpec.ofChange linkOnceSpec)

/-- ITS FALSE NEIGHBOUR: 'it returns false'. Refute it at one input. -/
def linkOnceWrong : ChangeSpec := { name := "linkOnce", fn := fun _ => fun
  | [d] => { results := [.lit (.bool false)], args := [d] }
  | _ => none }
def LinkOnceWrongFalsely : Prop := linkOnceRow.holds Try.pinned (OpenSpec.ofChange linkOnceWrong)

/-- 'hearsaylaw26.LinkPlays': WHATEVER THE INPUT: true; the input reads as it did. -/
def linkPlaysSpec : ChangeSpec := { name := "linkPlays", fn := fun _ => fun
  | [d1, d2] => { results := [.lit (.bool true)], args := [d1, d2] }
  | _ => none }
def linkPlaysRow : OpenClaim := { program := "ytnnmhpplmihidaa", sum := "5b8880074772b0dfd55c696413b77496fef191db1852fa4350d807a622e05adc", func := "hearsay/hearsaylaw26.LinkPlays", spec := "linkPlays", plainKeys := false, apart := false }
def LinkPlaysSaid : Prop := linkPlaysRow.holds Try.pinned (OpenSpec.ofChange linkPlaysSpec)

/-- ITS FALSE NEIGHBOUR: 'it returns false'. Refute it at one input. -/
def linkPlaysWrong : ChangeSpec := { name := "linkPlays", fn := fun _ => fun
  | [d1, d2] => { results := [.lit (.bool false)], args := [d1, d2] }
  | _ => none }
def LinkPlaysWrongFalsely : Prop := linkPlaysRow.holds Try.pinned (OpenSpec.ofChange linkPlaysWrong)

/-- 'hearsaylaw26.LinkNil': WHATEVER THE INPUT: true; the input reads as it did. -/
def linkNilSpec : ChangeSpec := { name := "linkNil", fn := fun _ => fun
  | [d] => { results := [.lit (.bool true)], args := [d] }
  | _ => none }
def linkNilRow : OpenClaim := { program := "ytnnmhpplmihidaa", sum := "5b8880074772b0dfd55c696413b77496fef191db1852fa4350d807a622e05adc", func := "hearsay/hearsaylaw26.LinkNil", spec := "linkNil", plainKeys := false, apart := false }
def LinkNilSaid : Prop := linkNilRow.holds Try.pinned (OpenSpec.ofChange linkNilSpec)

/-- ITS FALSE NEIGHBOUR: 'it returns false'. Refute it at one input. -/
def linkNilWrong : ChangeSpec := { name := "linkNil", fn := fun _ => fun
  | [d] => { results := [.lit (.bool false)], args := [d] }
  | _ => none }
def LinkNilWrongFalsely : Prop := linkNilRow.holds Try.pinned (OpenSpec.ofChange linkNilWrong)

/- THE SECOND FORM. 'bulk': how many values and letters a reading holds, each counted each time it is reached (what is shared counts as often as it is met; a slice's spare places count too). A statement '..UptoSaid' is the law's where the arguments, and the package variables that the reading takes, are together of bulk at most 1048576: NARROWER than '..Said'. Prove '..Said' where nothing that the law and all that it calls make is longer than what came in: it says more and counts as full. Else prove '..UptoSaid'. A law counts once. -/
mutual
def uptoBulk {H : Type} : DataW H → Nat
  | .lit (.string bytes) => bytes.length + 1
  | .lit _ => 1
  | .nil => 1
  | .ptr d => uptoBulk d + 1
  | .slice elems spare => uptoBulkAll elems + uptoBulkAll spare + 1
  | .agg parts => uptoBulkAll parts + 1
  | .iface _ d => uptoBulk d + 1
  | .map entries => uptoBulkEntries entries + 1
  | .held _ => 1
def uptoBulkAll {H : Type} : List (DataW H) → Nat
  | [] => 0
  | d :: r => uptoBulk d + uptoBulkAll r
def uptoBulkEntries {H : Type} : List (Lit × DataW H) → Nat
  | [] => 0
  | x :: r => uptoBulkEntry x + uptoBulkEntries r
def uptoBulkEntry {H : Type} : Lit × DataW H → Nat
  | (.string bytes, d) => bytes.length + uptoBulk d + 1
  | (_, d) => uptoBulk d + 1
 end
def uptoSmall : (H : Type) → List (DataW H) → Bool := fun _ ds => decide (uptoBulkAll ds ≤ 1048576)
def OpenSpec.upto (s : _root_.Go.ChangeSpec) : _root_.Go.OpenSpec := { _root_.Go.OpenSpec.ofChange s with cond := some uptoSmall }

/-- 'hearsaylaw09.DiceOrders', WHERE WHAT IT READS IS OF BULK AT MOST 1048576: true; the input reads as it did. -/
def diceOrdersUptoRow : OpenClaim := { program := "ytnnmhpplmihidaa", sum := "5b8880074772b0dfd55c696413b77496fef191db1852fa4350d807a622e05adc", func := "hearsay/hearsaylaw09.DiceOrders", spec := "diceOrders", unfollowed := true, recurses := true, plainKeys := false, apart := false, narrowed := true }
def DiceOrdersUptoSaid : Prop := diceOrdersUptoRow.holds Try.pinned (OpenSpec.upto diceOrdersSpec)

/-- 'hearsaylaw09.DiceOnce', WHERE WHAT IT READS IS OF BULK AT MOST 1048576: true; the input reads as it did. -/
def diceOnceUptoRow : OpenClaim := { program := "ytnnmhpplmihidaa", sum := "5b8880074772b0dfd55c696413b77496fef191db1852fa4350d807a622e05adc", func := "hearsay/hearsaylaw09.DiceOnce", spec := "diceOnce", unfollowed := true, recurses := true, plainKeys := false, apart := false, narrowed := true }
def DiceOnceUptoSaid : Prop := diceOnceUptoRow.holds Try.pinned (OpenSpec.upto diceOnceSpec)

/-- 'hearsaylaw09.DiceAll', WHERE WHAT IT READS IS OF BULK AT MOST 1048576: true; the input reads as it did. -/
def diceAllUptoRow : OpenClaim := { program := "ytnnmhpplmihidaa", sum := "5b8880074772b0dfd55c696413b77496fef191db1852fa4350d807a622e05adc", func := "hearsay/hearsaylaw09.DiceAll", spec := "diceAll", unfollowed := true, recurses := true, plainKeys := false, apart := false, narrowed := true }
def DiceAllUptoSaid : Prop := diceAllUptoRow.holds Try.pinned (OpenSpec.upto diceAllSpec)

/-- 'hearsaylaw09.DiceDraws', WHERE WHAT IT READS IS OF BULK AT MOST 1048576: true; the input reads as it did. -/
def diceDrawsUptoRow : OpenClaim := { program := "ytnnmhpplmihidaa", sum := "5b8880074772b0dfd55c696413b77496fef191db1852fa4350d807a622e05adc", func := "hearsay/hearsaylaw09.DiceDraws", spec := "diceDraws", unfollowed := true, recurses := true, plainKeys := false, apart := false, narrowed := true }
def DiceDrawsUptoSaid : Prop := diceDrawsUptoRow.holds Try.pinned (OpenSpec.upto diceDrawsSpec)

/-- 'hearsaylaw43.ShrinkLeast', WHERE WHAT IT READS IS OF BULK AT MOST 1048576: true; the input reads as it did. -/
def shrinkLeastUptoRow : OpenClaim := { program := "ytnnmhpplmihidaa", sum := "5b8880074772b0dfd55c696413b77496fef191db1852fa4350d807a622e05adc", func := "hearsay/hearsaylaw43.ShrinkLeast", spec := "shrinkLeast", unfollowed := true, recurses := true, plainKeys := false, apart := false, narrowed := true }
def ShrinkLeastUptoSaid : Prop := shrinkLeastUptoRow.holds Try.pinned (OpenSpec.upto shrinkLeastSpec)

/-- 'hearsaylaw26.LinkOnce', WHERE WHAT IT READS IS OF BULK AT MOST 1048576: true; the input reads as it did. -/
def linkOnceUptoRow : OpenClaim := { program := "ytnnmhpplmihidaa", sum := "5b8880074772b0dfd55c696413b77496fef191db1852fa4350d807a622e05adc", func := "hearsay/hearsaylaw26.LinkOnce", spec := "linkOnce", plainKeys := false, apart := false, narrowed := true }
def LinkOnceUptoSaid : Prop := linkOnceUptoRow.holds Try.pinned (OpenSpec.upto linkOnceSpec)

/-- 'hearsaylaw26.LinkPlays', WHERE WHAT IT READS IS OF BULK AT MOST 1048576: true; the input reads as it did. -/
def linkPlaysUptoRow : OpenClaim := { program := "ytnnmhpplmihidaa", sum := "5b8880074772b0dfd55c696413b77496fef191db1852fa4350d807a622e05adc", func := "hearsay/hearsaylaw26.LinkPlays", spec := "linkPlays", plainKeys := false, apart := false, narrowed := true }
def LinkPlaysUptoSaid : Prop := linkPlaysUptoRow.holds Try.pinned (OpenSpec.upto linkPlaysSpec)

/-- 'hearsaylaw26.LinkNil', WHERE WHAT IT READS IS OF BULK AT MOST 1048576: true; the input reads as it did. -/
def linkNilUptoRow : OpenClaim := { program := "ytnnmhpplmihidaa", sum := "5b8880074772b0dfd55c696413b77496fef191db1852fa4350d807a622e05adc", func := "hearsay/hearsaylaw26.LinkNil", spec := "linkNil", plainKeys := false, apart := false, narrowed := true }
def LinkNilUptoSaid : Prop := linkNilUptoRow.holds Try.pinned (OpenSpec.upto linkNilSpec)

end Rows
end Go.Proofs.Ytnnmhpplmihidaa
