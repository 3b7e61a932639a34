/-
  No cell of these rows narrows 'for every input' (looked for: loops, veiled, ifaces, maps, wideKeys, modest, calm, conditions, laid).
  DERIVED. THE GIVEN ROWS OF THIS SEAT. 11 by the template 'for every input the law returns true; each argument reads behind the call as it read before'; 0 by the template 'total and deterministic' (their statements: YtfgaglgaofceiaaTotals.lean).
  GIVEN WITH THE SEED: the statements are not yours to turn. If you find one false, say at which input.
  Laid BY PROGRAM, IN A SANDBOX (cutbox-rows.mjs): the forced cells as the released guide's own fill.sh prints them over the translation da3855c8a779b78f… (all of the seat's roots in one cut). By AI agents, Wed Nov 11 2026. No macro, syntax, notation, axiom, sorry.
-/
import Derived.Test.YtfgaglgaofceiaaChecked
import GoSem.Claim
import GoSem.ClaimJoined
import GoSem.ClaimMapViews
import Derived.JoinedTies
import Derived.KernelRfl
namespace Go.Proofs.Ytfgaglgaofceiaa
/- THE CELL 'sum', in the pinned program and in every row, IS THE sha256 OF THE DUMP (.gsa) THAT YtfgaglgaofceiaaProg.lean LOADS. Nothing in Lean hashes anything: it is a label: what it is worth is what the hold of that sum in a sandbox is worth. -/
noncomputable def Try.pinned : Pinned := { name := "ytfgaglgaofceiaa", sum := "da3855c8a779b78f9a65d6681c9279e02356066c2c282d4b89ef5ac4eedf9e1d", checked := Try.checked }
namespace Rows
def none {H : Type} : Left H := { results := [], args := [] }

/-- 'weepholelaw01.LitNames': WHATEVER THE INPUT: true; the input reads as it did. -/
def litNamesSpec : ChangeSpec := { name := "litNames", fn := fun _ => fun
  | [] => { results := [.lit (.bool true)], args := [] }
  | _ => none }
def litNamesRow : OpenClaim := { program := "ytfgaglgaofceiaa", sum := "da3855c8a779b78f9a65d6681c9279e02356066c2c282d4b89ef5ac4eedf9e1d", func := "weephole/weepholelaw01.LitNames", spec := "litNames", unfollowed := true, recurses := true, apart := false }
def LitNamesSaid : Prop := litNamesRow.holds Try.pinned (OpenSpec.ofChange litNamesSpec)

/-- ITS FALSE NEIGHBOUR: 'it returns false'. Refute it at one input. -/
def litNamesWrong : ChangeSpec := { name := "litNames", fn := fun _ => fun
  | [] => { results := [.lit (.bool false)], args := [] }
  | _ => none }
def LitNamesWrongFalsely : Prop := litNamesRow.holds Try.pinned (OpenSpec.ofChange litNamesWrong)

/-- 'weepholelaw02.CnfNames': WHATEVER THE INPUT: true; the input reads as it did. -/
def cnfNamesSpec : ChangeSpec := { name := "cnfNames", fn := fun _ => fun
  | [] => { results := [.lit (.bool true)], args := [] }
  | _ => none }
def cnfNamesRow : OpenClaim := { program := "ytfgaglgaofceiaa", sum := "da3855c8a779b78f9a65d6681c9279e02356066c2c282d4b89ef5ac4eedf9e1d", func := "weephole/weepholelaw02.CnfNames", spec := "cnfNames", unfollowed := true, recurses := true, apart := false }
def CnfNamesSaid : Prop := cnfNamesRow.holds Try.pinned (OpenSpec.ofChange cnfNamesSpec)

/-- ITS FALSE NEIGHBOUR: 'it returns false'. Refute it at one input. -/
def cnfNamesWrong : ChangeSpec := { name := "cnfNames", fn := fun _ => fun
  | [] => { results := [.lit (.bool false)], args := [] }
  | _ => none }
def CnfNamesWrongFalsely : Prop := cnfNamesRow.holds Try.pinned (OpenSpec.ofChange cnfNamesWrong)

/-- 'weepholelaw02.CnfCopies': WHATEVER THE INPUT: true; the input reads as it did. -/
def cnfCopiesSpec : ChangeSpec := { name := "cnfCopies", fn := fun _ => fun
  | [d1, d2, d3, d4] => { results := [.lit (.bool true)], args := [d1, d2, d3, d4] }
  | _ => none }
def cnfCopiesRow : OpenClaim := { program := "ytfgaglgaofceiaa", sum := "da3855c8a779b78f9a65d6681c9279e02356066c2c282d4b89ef5ac4eedf9e1d", func := "weephole/weepholelaw02.CnfCopies", spec := "cnfCopies", unfollowed := true, recurses := true, apart := false }
def CnfCopiesSaid : Prop := cnfCopiesRow.holds Try.pinned (OpenSpec.ofChange cnfCopiesSpec)

/-- ITS FALSE NEIGHBOUR: 'it returns false'. Refute it at one input. -/
def cnfCopiesWrong : ChangeSpec := { name := "cnfCopies", fn := fun _ => fun
  | [d1, d2, d3, d4] => { results := [.lit (.bool false)], args := [d1, d2, d3, d4] }
  | _ => none }
def CnfCopiesWrongFalsely : Prop := cnfCopiesRow.holds Try.pinned (OpenSpec.ofChange cnfCopiesWrong)

/-- 'weepholelaw04.PropUnits': WHATEVER THE INPUT: true; the input reads as it did. -/
def propUnitsSpec : ChangeSpec := { name := "propUnits", fn := fun _ => fun
  | [d1, d2, d3] => { results := [.lit (.bool true)], args := [d1, d2, d3] }
  | _ => none }
def propUnitsRow : OpenClaim := { program := "ytfgaglgaofceiaa", sum := "da3855c8a779b78f9a65d6681c9279e02356066c2c282d4b89ef5ac4eedf9e1d", func := "weephole/weepholelaw04.PropUnits", spec := "propUnits", unfollowed := true, recurses := true, apart := false }
def PropUnitsSaid : Prop := propUnitsRow.holds Try.pinned (OpenSpec.ofChange propUnitsSpec)

/-- ITS FALSE NEIGHBOUR: 'it returns false'. Refute it at one input. -/
def propUnitsWrong : ChangeSpec := { name := "propUnits", fn := fun _ => fun
  | [d1, d2, d3] => { results := [.lit (.bool false)], args := [d1, d2, d3] }
  | _ => none }
def PropUnitsWrongFalsely : Prop := propUnitsRow.holds Try.pinned (OpenSpec.ofChange propUnitsWrong)

/-- 'weepholelaw04.PropOdd': WHATEVER THE INPUT: true; the input reads as it did. -/
def propOddSpec : ChangeSpec := { name := "propOdd", fn := fun _ => fun
  | [d1, d2] => { results := [.lit (.bool true)], args := [d1, d2] }
  | _ => none }
def propOddRow : OpenClaim := { program := "ytfgaglgaofceiaa", sum := "da3855c8a779b78f9a65d6681c9279e02356066c2c282d4b89ef5ac4eedf9e1d", func := "weephole/weepholelaw04.PropOdd", spec := "propOdd", unfollowed := true, recurses := true, apart := false }
def PropOddSaid : Prop := propOddRow.holds Try.pinned (OpenSpec.ofChange propOddSpec)

/-- ITS FALSE NEIGHBOUR: 'it returns false'. Refute it at one input. -/
def propOddWrong : ChangeSpec := { name := "propOdd", fn := fun _ => fun
  | [d1, d2] => { results := [.lit (.bool false)], args := [d1, d2] }
  | _ => none }
def PropOddWrongFalsely : Prop := propOddRow.holds Try.pinned (OpenSpec.ofChange propOddWrong)

/-- 'weepholelaw04.PropNames': WHATEVER THE INPUT: true; the input reads as it did. -/
def propNamesSpec : ChangeSpec := { name := "propNames", fn := fun _ => fun
  | [] => { results := [.lit (.bool true)], args := [] }
  | _ => none }
def propNamesRow : OpenClaim := { program := "ytfgaglgaofceiaa", sum := "da3855c8a779b78f9a65d6681c9279e02356066c2c282d4b89ef5ac4eedf9e1d", func := "weephole/weepholelaw04.PropNames", spec := "propNames", unfollowed := true, recurses := true, apart := false }
def PropNamesSaid : Prop := propNamesRow.holds Try.pinned (OpenSpec.ofChange propNamesSpec)

/-- ITS FALSE NEIGHBOUR: 'it returns false'. Refute it at one input. -/
def propNamesWrong : ChangeSpec := { name := "propNames", fn := fun _ => fun
  | [] => { results := [.lit (.bool false)], args := [] }
  | _ => none }
def PropNamesWrongFalsely : Prop := propNamesRow.holds Try.pinned (OpenSpec.ofChange propNamesWrong)

/-- 'weepholelaw04.PropChain': WHATEVER THE INPUT: true; the input reads as it did. -/
def propChainSpec : ChangeSpec := { name := "propChain", fn := fun _ => fun
  | [d1, d2] => { results := [.lit (.bool true)], args := [d1, d2] }
  | _ => none }
def propChainRow : OpenClaim := { program := "ytfgaglgaofceiaa", sum := "da3855c8a779b78f9a65d6681c9279e02356066c2c282d4b89ef5ac4eedf9e1d", func := "weephole/weepholelaw04.PropChain", spec := "propChain", unfollowed := true, recurses := true, apart := false }
def PropChainSaid : Prop := propChainRow.holds Try.pinned (OpenSpec.ofChange propChainSpec)

/-- ITS FALSE NEIGHBOUR: 'it returns false'. Refute it at one input. -/
def propChainWrong : ChangeSpec := { name := "propChain", fn := fun _ => fun
  | [d1, d2] => { results := [.lit (.bool false)], args := [d1, d2] }
  | _ => none }
def PropChainWrongFalsely : Prop := propChainRow.holds Try.pinned (OpenSpec.ofChange propChainWrong)

/-- 'weepholelaw04.PropClosed': WHATEVER THE INPUT: true; the input reads as it did. -/
def propClosedSpec : ChangeSpec := { name := "propClosed", fn := fun _ => fun
  | [d1, d2, d3] => { results := [.lit (.bool true)], args := [d1, d2, d3] }
  | _ => none }
def propClosedRow : OpenClaim := { program := "ytfgaglgaofceiaa", sum := "da3855c8a779b78f9a65d6681c9279e02356066c2c282d4b89ef5ac4eedf9e1d", func := "weephole/weepholelaw04.PropClosed", spec := "propClosed", unfollowed := true, recurses := true, apart := false }
def PropClosedSaid : Prop := propClosedRow.holds Try.pinned (OpenSpec.ofChange propClosedSpec)

/-- ITS FALSE NEIGHBOUR: 'it returns false'. Refute it at one input. -/
def propClosedWrong : ChangeSpec := { name := "propClosed", fn := fun _ => fun
  | [d1, d2, d3] => { results := [.lit (.bool false)], args := [d1, d2, d3] }
  | _ => none }
def PropClosedWrongFalsely : Prop := propClosedRow.holds Try.pinned (OpenSpec.ofChange propClosedWrong)

/-- 'weepholelaw04.PropGrows': WHATEVER THE INPUT: true; the input reads as it did. -/
def propGrowsSpec : ChangeSpec := { name := "propGrows", fn := fun _ => fun
  | [d1, d2, d3, d4, d5] => { results := [.lit (.bool true)], args := [d1, d2, d3, d4, d5] }
  | _ => none }
def propGrowsRow : OpenClaim := { program := "ytfgaglgaofceiaa", sum := "da3855c8a779b78f9a65d6681c9279e02356066c2c282d4b89ef5ac4eedf9e1d", func := "weephole/weepholelaw04.PropGrows", spec := "propGrows", unfollowed := true, recurses := true, apart := false }
def PropGrowsSaid : Prop := propGrowsRow.holds Try.pinned (OpenSpec.ofChange propGrowsSpec)

/-- ITS FALSE NEIGHBOUR: 'it returns false'. Refute it at one input. -/
def propGrowsWrong : ChangeSpec := { name := "propGrows", fn := fun _ => fun
  | [d1, d2, d3, d4, d5] => { results := [.lit (.bool false)], args := [d1, d2, d3, d4, d5] }
  | _ => none }
def PropGrowsWrongFalsely : Prop := propGrowsRow.holds Try.pinned (OpenSpec.ofChange propGrowsWrong)

/-- 'weepholelaw04.PropOrder': WHATEVER THE INPUT: true; the input reads as it did. -/
def propOrderSpec : ChangeSpec := { name := "propOrder", fn := fun _ => fun
  | [d1, d2, d3] => { results := [.lit (.bool true)], args := [d1, d2, d3] }
  | _ => none }
def propOrderRow : OpenClaim := { program := "ytfgaglgaofceiaa", sum := "da3855c8a779b78f9a65d6681c9279e02356066c2c282d4b89ef5ac4eedf9e1d", func := "weephole/weepholelaw04.PropOrder", spec := "propOrder", unfollowed := true, recurses := true, apart := false }
def PropOrderSaid : Prop := propOrderRow.holds Try.pinned (OpenSpec.ofChange propOrderSpec)

/-- ITS FALSE NEIGHBOUR: 'it returns false'. Refute it at one input. -/
def propOrderWrong : ChangeSpec := { name := "propOrder", fn := fun _ => fun
  | [d1, d2, d3] => { results := [.lit (.bool false)], args := [d1, d2, d3] }
  | _ => none }
def PropOrderWrongFalsely : Prop := propOrderRow.holds Try.pinned (OpenSpec.ofChange propOrderWrong)

/-- 'weepholelaw04.PropSound': WHATEVER THE INPUT: true; the input reads as it did. -/
def propSoundSpec : ChangeSpec := { name := "propSound", fn := fun _ => fun
  | [d1, d2, d3, d4] => { results := [.lit (.bool true)], args := [d1, d2, d3, d4] }
  | _ => none }
def propSoundRow : OpenClaim := { program := "ytfgaglgaofceiaa", sum := "da3855c8a779b78f9a65d6681c9279e02356066c2c282d4b89ef5ac4eedf9e1d", func := "weephole/weepholelaw04.PropSound", spec := "propSound", unfollowed := true, recurses := true, apart := false }
def PropSoundSaid : Prop := propSoundRow.holds Try.pinned (OpenSpec.ofChange propSoundSpec)

/-- ITS FALSE NEIGHBOUR: 'it returns false'. Refute it at one input. -/
def propSoundWrong : ChangeSpec := { name := "propSound", fn := fun _ => fun
  | [d1, d2, d3, d4] => { results := [.lit (.bool false)], args := [d1, d2, d3, d4] }
  | _ => none }
def PropSoundWrongFalsely : Prop := propSoundRow.holds Try.pinned (OpenSpec.ofChange propSoundWrong)

/- THE SECOND FORM. 'bulk': how many values and letters a reading holds, each counted each time it is reached (what is shared counts as often as it is met; a slice's spare places count too). A statement '..UptoSaid' is the law's where the arguments, and the package variables that the reading takes, are together of bulk at most 1048576: NARROWER than '..Said'. Prove '..Said' where nothing that the law and all that it calls make is longer than what came in: it says more and counts as full. Else prove '..UptoSaid'. A law counts once. -/
mutual
def uptoBulk {H : Type} : DataW H → Nat
  | .lit (.string bytes) => bytes.length + 1
  | .lit _ => 1
  | .nil => 1
  | .ptr d => uptoBulk d + 1
  | .slice elems spare => uptoBulkAll elems + uptoBulkAll spare + 1
  | .agg parts => uptoBulkAll parts + 1
  | .iface _ d => uptoBulk d + 1
  | .map entries => uptoBulkEntries entries + 1
  | .held _ => 1
def uptoBulkAll {H : Type} : List (DataW H) → Nat
  | [] => 0
  | d :: r => uptoBulk d + uptoBulkAll r
def uptoBulkEntries {H : Type} : List (Lit × DataW H) → Nat
  | [] => 0
  | x :: r => uptoBulkEntry x + uptoBulkEntries r
def uptoBulkEntry {H : Type} : Lit × DataW H → Nat
  | (.string bytes, d) => bytes.length + uptoBulk d + 1
  | (_, d) => uptoBulk d + 1
 end
def uptoSmall : (H : Type) → List (DataW H) → Bool := fun _ ds => decide (uptoBulkAll ds ≤ 1048576)
def OpenSpec.upto (s : _root_.Go.ChangeSpec) : _root_.Go.OpenSpec := { _root_.Go.OpenSpec.ofChange s with cond := some uptoSmall }

/-- 'weepholelaw01.LitNames', WHERE WHAT IT READS IS OF BULK AT MOST 1048576: true; the input reads as it did. -/
def litNamesUptoRow : OpenClaim := { program := "ytfgaglgaofceiaa", sum := "da3855c8a779b78f9a65d6681c9279e02356066c2c282d4b89ef5ac4eedf9e1d", func := "weephole/weepholelaw01.LitNames", spec := "litNames", unfollowed := true, recurses := true, apart := false, narrowed := true }
def LitNamesUptoSaid : Prop := litNamesUptoRow.holds Try.pinned (OpenSpec.upto litNamesSpec)

/-- 'weepholelaw02.CnfNames', WHERE WHAT IT READS IS OF BULK AT MOST 1048576: true; the input reads as it did. -/
def cnfNamesUptoRow : OpenClaim := { program := "ytfgaglgaofceiaa", sum := "da3855c8a779b78f9a65d6681c9279e02356066c2c282d4b89ef5ac4eedf9e1d", func := "weephole/weepholelaw02.CnfNames", spec := "cnfNames", unfollowed := true, recurses := true, apart := false, narrowed := true }
def CnfNamesUptoSaid : Prop := cnfNamesUptoRow.holds Try.pinned (OpenSpec.upto cnfNamesSpec)

/-- 'weepholelaw02.CnfCopies', WHERE WHAT IT READS IS OF BULK AT MOST 1048576: true; the input reads as it did. -/
def cnfCopiesUptoRow : OpenClaim := { program := "ytfgaglgaofceiaa", sum := "da3855c8a779b78f9a65d6681c9279e02356066c2c282d4b89ef5ac4eedf9e1d", func := "weephole/weepholelaw02.CnfCopies", spec := "cnfCopies", unfollowed := true, recurses := true, apart := false, narrowed := true }
def CnfCopiesUptoSaid : Prop := cnfCopiesUptoRow.holds Try.pinned (OpenSpec.upto cnfCopiesSpec)

/-- 'weepholelaw04.PropUnits', WHERE WHAT IT READS IS OF BULK AT MOST 1048576: true; the input reads as it did. -/
def propUnitsUptoRow : OpenClaim := { program := "ytfgaglgaofceiaa", sum := "da3855c8a779b78f9a65d6681c9279e02356066c2c282d4b89ef5ac4eedf9e1d", func := "weephole/weepholelaw04.PropUnits", spec := "propUnits", unfollowed := true, recurses := true, apart := false, narrowed := true }
def PropUnitsUptoSaid : Prop := propUnitsUptoRow.holds Try.pinned (OpenSpec.upto propUnitsSpec)

/-- 'weepholelaw04.PropOdd', WHERE WHAT IT READS IS OF BULK AT MOST 1048576: true; the input reads as it did. -/
def propOddUptoRow : OpenClaim := { program := "ytfgaglgaofceiaa", sum := "da3855c8a779b78f9a65d6681c9279e02356066c2c282d4b89ef5ac4eedf9e1d", func := "weephole/weepholelaw04.PropOdd", spec := "propOdd", unfollowed := true, recurses := true, apart := false, narrowed := true }
def PropOddUptoSaid : Prop := propOddUptoRow.holds Try.pinned (OpenSpec.upto propOddSpec)

/-- 'weepholelaw04.PropNames', WHERE WHAT IT READS IS OF BULK AT MOST 1048576: true; the input reads as it did. -/
def propNamesUptoRow : OpenClaim := { program := "ytfgaglgaofceiaa", sum := "da3855c8a779b78f9a65d6681c9279e02356066c2c282d4b89ef5ac4eedf9e1d", func := "weephole/weepholelaw04.PropNames", spec := "propNames", unfollowed := true, recurses := true, apart := false, narrowed := true }
def PropNamesUptoSaid : Prop := propNamesUptoRow.holds Try.pinned (OpenSpec.upto propNamesSpec)

/-- 'weepholelaw04.PropChain', WHERE WHAT IT READS IS OF BULK AT MOST 1048576: true; the input reads as it did. -/
def propChainUptoRow : OpenClaim := { program := "ytfgaglgaofceiaa", sum := "da3855c8a779b78f9a65d6681c9279e02356066c2c282d4b89ef5ac4eedf9e1d", func := "weephole/weepholelaw04.PropChain", spec := "propChain", unfollowed := true, recurses := true, apart := false, narrowed := true }
def PropChainUptoSaid : Prop := propChainUptoRow.holds Try.pinned (OpenSpec.upto propChainSpec)

/-- 'weepholelaw04.PropClosed', WHERE WHAT IT READS IS OF BULK AT MOST 1048576: true; the input reads as it did. -/
def propClosedUptoRow : OpenClaim := { program := "ytfgaglgaofceiaa", sum := "da3855c8a779b78f9a65d6681c9279e02356066c2c282d4b89ef5ac4eedf9e1d", func := "weephole/weepholelaw04.PropClosed", spec := "propClosed", unfollowed := true, recurses := true, apart := false, narrowed := true }
def PropClosedUptoSaid : Prop := propClosedUptoRow.holds Try.pinned (OpenSpec.upto propClosedSpec)

/-- 'weepholelaw04.PropGrows', WHERE WHAT IT READS IS OF BULK AT MOST 1048576: true; the input reads as it did. -/
def propGrowsUptoRow : OpenClaim := { program := "ytfgaglgaofceiaa", sum := "da3855c8a779b78f9a65d6681c9279e02356066c2c282d4b89ef5ac4eedf9e1d", func := "weephole/weepholelaw04.PropGrows", spec := "propGrows", unfollowed := true, recurses := true, apart := false, narrowed := true }
def PropGrowsUptoSaid : Prop := propGrowsUptoRow.holds Try.pinned (OpenSpec.upto propGrowsSpec)

/-- 'weepholelaw04.PropOrder', WHERE WHAT IT READS IS OF BULK AT MOST 1048576: true; the input reads as it did. -/
def propOrderUptoRow : OpenClaim := { program := "ytfgaglgaofceiaa", sum := "da3855c8a779b78f9a65d6681c9279e02356066c2c282d4b89ef5ac4eedf9e1d", func := "weephole/weepholelaw04.PropOrder", spec := "propOrder", unfollowed := true, recurses := true, apart := false, narrowed := true }
def PropOrderUptoSaid : Prop := propOrderUptoRow.holds Try.pinned (OpenSpec.upto propOrderSpec)

/-- 'weepholelaw04.PropSound', WHERE WHAT IT READS IS OF BULK AT MOST 1048576: true; the input reads as it did. -/
def propSoundUptoRow : OpenClaim := { program := "ytfgaglgaofceiaa", sum := "da3855c8a779b78f9a65d6681c9279e02356066c2c282d4b89ef5ac4eedf9e1d", func := "weephole/weepholelaw04.PropSound", spec := "propSound", unfollowed := true, recurses := true, apart := false, narrowed := true }
def PropSoundUptoSaid : Prop := propSoundUptoRow.holds Try.pinned (OpenSpec.upto propSoundSpec)

end Rows
end Go.Proofs.Ytfgaglgaofceiaa
