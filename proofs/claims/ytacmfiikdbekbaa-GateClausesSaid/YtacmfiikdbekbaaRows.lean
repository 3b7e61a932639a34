/-
  No cell of these rows narrows 'for every input' (looked for: loops, veiled, ifaces, maps, wideKeys, modest, calm, conditions, laid).
  DERIVED. THE GIVEN ROWS OF THIS SEAT. 8 by the template 'for every input the law returns true; each argument reads behind the call as it read before'; 0 by the template 'total and deterministic' (their statements: YtacmfiikdbekbaaTotals.lean).
  GIVEN WITH THE SEED: the statements are not yours to turn. If you find one false, say at which input.
  Laid BY PROGRAM, IN A SANDBOX (cutbox-rows.mjs): the forced cells as the released guide's own fill.sh prints them over the translation 6730d75142b6263d… (all of the seat's roots in one cut). By AI agents, Wed Nov 11 2026. No macro, syntax, notation, axiom, sorry.
-/
import Derived.Test.YtacmfiikdbekbaaChecked
import GoSem.Claim
import GoSem.ClaimJoined
import GoSem.ClaimMapViews
import Derived.JoinedTies
import Derived.KernelRfl
namespace Go.Proofs.Ytacmfiikdbekbaa
/- THE CELL 'sum', in the pinned program and in every row, IS THE sha256 OF THE DUMP (.gsa) THAT YtacmfiikdbekbaaProg.lean LOADS. Nothing in Lean hashes anything: it is a label: what it is worth is what the hold of that sum in a sandbox is worth. -/
noncomputable def Try.pinned : Pinned := { name := "ytacmfiikdbekbaa", sum := "6730d75142b6263da829c59b1b8ec88c8e19d0d689b29a01025146912a6b9d20", checked := Try.checked }
namespace Rows
def none {H : Type} : Left H := { results := [], args := [] }

/-- 'weepholelaw01.LitNames': WHATEVER THE INPUT: true; the input reads as it did. -/
def litNamesSpec : ChangeSpec := { name := "litNames", fn := fun _ => fun
  | [] => { results := [.lit (.bool true)], args := [] }
  | _ => none }
def litNamesRow : OpenClaim := { program := "ytacmfiikdbekbaa", sum := "6730d75142b6263da829c59b1b8ec88c8e19d0d689b29a01025146912a6b9d20", func := "weephole/weepholelaw01.LitNames", spec := "litNames", unfollowed := true, recurses := true, apart := false }
def LitNamesSaid : Prop := litNamesRow.holds Try.pinned (OpenSpec.ofChange litNamesSpec)

/-- ITS FALSE NEIGHBOUR: 'it returns false'. Refute it at one input. -/
def litNamesWrong : ChangeSpec := { name := "litNames", fn := fun _ => fun
  | [] => { results := [.lit (.bool false)], args := [] }
  | _ => none }
def LitNamesWrongFalsely : Prop := litNamesRow.holds Try.pinned (OpenSpec.ofChange litNamesWrong)

/-- 'weepholelaw02.CnfNames': WHATEVER THE INPUT: true; the input reads as it did. -/
def cnfNamesSpec : ChangeSpec := { name := "cnfNames", fn := fun _ => fun
  | [] => { results := [.lit (.bool true)], args := [] }
  | _ => none }
def cnfNamesRow : OpenClaim := { program := "ytacmfiikdbekbaa", sum := "6730d75142b6263da829c59b1b8ec88c8e19d0d689b29a01025146912a6b9d20", func := "weephole/weepholelaw02.CnfNames", spec := "cnfNames", unfollowed := true, recurses := true, apart := false }
def CnfNamesSaid : Prop := cnfNamesRow.holds Try.pinned (OpenSpec.ofChange cnfNamesSpec)

/-- ITS FALSE NEIGHBOUR: 'it returns false'. Refute it at one input. -/
def cnfNamesWrong : ChangeSpec := { name := "cnfNames", fn := fun _ => fun
  | [] => { results := [.lit (.bool false)], args := [] }
  | _ => none }
def CnfNamesWrongFalsely : Prop := cnfNamesRow.holds Try.pinned (OpenSpec.ofChange cnfNamesWrong)

/-- 'weepholelaw02.CnfCopies': WHATEVER THE INPUT: true; the input reads as it did. -/
def cnfCopiesSpec : ChangeSpec := { name := "cnfCopies", fn := fun _ => fun
  | [d1, d2, d3, d4] => { results := [.lit (.bool true)], args := [d1, d2, d3, d4] }
  | _ => none }
def cnfCopiesRow : OpenClaim := { program := "ytacmfiikdbekbaa", sum := "6730d75142b6263da829c59b1b8ec88c8e19d0d689b29a01025146912a6b9d20", func := "weephole/weepholelaw02.CnfCopies", spec := "cnfCopies", unfollowed := true, recurses := true, apart := false }
def CnfCopiesSaid : Prop := cnfCopiesRow.holds Try.pinned (OpenSpec.ofChange cnfCopiesSpec)

/-- ITS FALSE NEIGHBOUR: 'it returns false'. Refute it at one input. -/
def cnfCopiesWrong : ChangeSpec := { name := "cnfCopies", fn := fun _ => fun
  | [d1, d2, d3, d4] => { results := [.lit (.bool false)], args := [d1, d2, d3, d4] }
  | _ => none }
def CnfCopiesWrongFalsely : Prop := cnfCopiesRow.holds Try.pinned (OpenSpec.ofChange cnfCopiesWrong)

/-- 'weepholelaw15.GateValues': WHATEVER THE INPUT: true; the input reads as it did. -/
def gateValuesSpec : ChangeSpec := { name := "gateValues", fn := fun _ => fun
  | [d1, d2, d3] => { results := [.lit (.bool true)], args := [d1, d2, d3] }
  | _ => none }
def gateValuesRow : OpenClaim := { program := "ytacmfiikdbekbaa", sum := "6730d75142b6263da829c59b1b8ec88c8e19d0d689b29a01025146912a6b9d20", func := "weephole/weepholelaw15.GateValues", spec := "gateValues", unfollowed := true, recurses := true, apart := false }
def GateValuesSaid : Prop := gateValuesRow.holds Try.pinned (OpenSpec.ofChange gateValuesSpec)

/-- ITS FALSE NEIGHBOUR: 'it returns false'. Refute it at one input. -/
def gateValuesWrong : ChangeSpec := { name := "gateValues", fn := fun _ => fun
  | [d1, d2, d3] => { results := [.lit (.bool false)], args := [d1, d2, d3] }
  | _ => none }
def GateValuesWrongFalsely : Prop := gateValuesRow.holds Try.pinned (OpenSpec.ofChange gateValuesWrong)

/-- 'weepholelaw15.GatePartial': WHATEVER THE INPUT: true; the input reads as it did. -/
def gatePartialSpec : ChangeSpec := { name := "gatePartial", fn := fun _ => fun
  | [d1, d2, d3, d4] => { results := [.lit (.bool true)], args := [d1, d2, d3, d4] }
  | _ => none }
def gatePartialRow : OpenClaim := { program := "ytacmfiikdbekbaa", sum := "6730d75142b6263da829c59b1b8ec88c8e19d0d689b29a01025146912a6b9d20", func := "weephole/weepholelaw15.GatePartial", spec := "gatePartial", unfollowed := true, recurses := true, apart := false }
def GatePartialSaid : Prop := gatePartialRow.holds Try.pinned (OpenSpec.ofChange gatePartialSpec)

/-- ITS FALSE NEIGHBOUR: 'it returns false'. Refute it at one input. -/
def gatePartialWrong : ChangeSpec := { name := "gatePartial", fn := fun _ => fun
  | [d1, d2, d3, d4] => { results := [.lit (.bool false)], args := [d1, d2, d3, d4] }
  | _ => none }
def GatePartialWrongFalsely : Prop := gatePartialRow.holds Try.pinned (OpenSpec.ofChange gatePartialWrong)

/-- 'weepholelaw15.GateLaws': WHATEVER THE INPUT: true; the input reads as it did. -/
def gateLawsSpec : ChangeSpec := { name := "gateLaws", fn := fun _ => fun
  | [d1, d2, d3] => { results := [.lit (.bool true)], args := [d1, d2, d3] }
  | _ => none }
def gateLawsRow : OpenClaim := { program := "ytacmfiikdbekbaa", sum := "6730d75142b6263da829c59b1b8ec88c8e19d0d689b29a01025146912a6b9d20", func := "weephole/weepholelaw15.GateLaws", spec := "gateLaws", unfollowed := true, recurses := true, apart := false }
def GateLawsSaid : Prop := gateLawsRow.holds Try.pinned (OpenSpec.ofChange gateLawsSpec)

/-- ITS FALSE NEIGHBOUR: 'it returns false'. Refute it at one input. -/
def gateLawsWrong : ChangeSpec := { name := "gateLaws", fn := fun _ => fun
  | [d1, d2, d3] => { results := [.lit (.bool false)], args := [d1, d2, d3] }
  | _ => none }
def GateLawsWrongFalsely : Prop := gateLawsRow.holds Try.pinned (OpenSpec.ofChange gateLawsWrong)

/-- 'weepholelaw15.GateNames': WHATEVER THE INPUT: true; the input reads as it did. -/
def gateNamesSpec : ChangeSpec := { name := "gateNames", fn := fun _ => fun
  | [] => { results := [.lit (.bool true)], args := [] }
  | _ => none }
def gateNamesRow : OpenClaim := { program := "ytacmfiikdbekbaa", sum := "6730d75142b6263da829c59b1b8ec88c8e19d0d689b29a01025146912a6b9d20", func := "weephole/weepholelaw15.GateNames", spec := "gateNames", unfollowed := true, recurses := true, apart := false }
def GateNamesSaid : Prop := gateNamesRow.holds Try.pinned (OpenSpec.ofChange gateNamesSpec)

/-- ITS FALSE NEIGHBOUR: 'it returns false'. Refute it at one input. -/
def gateNamesWrong : ChangeSpec := { name := "gateNames", fn := fun _ => fun
  | [] => { results := [.lit (.bool false)], args := [] }
  | _ => none }
def GateNamesWrongFalsely : Prop := gateNamesRow.holds Try.pinned (OpenSpec.ofChange gateNamesWrong)

/-- 'weepholelaw15.GateClauses': WHATEVER THE INPUT: true; the input reads as it did. -/
def gateClausesSpec : ChangeSpec := { name := "gateClauses", fn := fun _ => fun
  | [d1, d2, d3] => { results := [.lit (.bool true)], args := [d1, d2, d3] }
  | _ => none }
def gateClausesRow : OpenClaim := { program := "ytacmfiikdbekbaa", sum := "6730d75142b6263da829c59b1b8ec88c8e19d0d689b29a01025146912a6b9d20", func := "weephole/weepholelaw15.GateClauses", spec := "gateClauses", unfollowed := true, recurses := true, apart := false }
def GateClausesSaid : Prop := gateClausesRow.holds Try.pinned (OpenSpec.ofChange gateClausesSpec)

/-- ITS FALSE NEIGHBOUR: 'it returns false'. Refute it at one input. -/
def gateClausesWrong : ChangeSpec := { name := "gateClauses", fn := fun _ => fun
  | [d1, d2, d3] => { results := [.lit (.bool false)], args := [d1, d2, d3] }
  | _ => none }
def GateClausesWrongFalsely : Prop := gateClausesRow.holds Try.pinned (OpenSpec.ofChange gateClausesWrong)

/- THE SECOND FORM. 'bulk': how many values and letters a reading holds, each counted each time it is reached (what is shared counts as often as it is met; a slice's spare places count too). A statement '..UptoSaid' is the law's where the arguments, and the package variables that the reading takes, are together of bulk at most 1048576: NARROWER than '..Said'. Prove '..Said' where nothing that the law and all that it calls make is longer than what came in: it says more and counts as full. Else prove '..UptoSaid'. A law counts once. -/
mutual
def uptoBulk {H : Type} : DataW H → Nat
  | .lit (.string bytes) => bytes.length + 1
  | .lit _ => 1
  | .nil => 1
  | .ptr d => uptoBulk d + 1
  | .slice elems spare => uptoBulkAll elems + uptoBulkAll spare + 1
  | .agg parts => uptoBulkAll parts + 1
  | .iface _ d => uptoBulk d + 1
  | .map entries => uptoBulkEntries entries + 1
  | .held _ => 1
def uptoBulkAll {H : Type} : List (DataW H) → Nat
  | [] => 0
  | d :: r => uptoBulk d + uptoBulkAll r
def uptoBulkEntries {H : Type} : List (Lit × DataW H) → Nat
  | [] => 0
  | x :: r => uptoBulkEntry x + uptoBulkEntries r
def uptoBulkEntry {H : Type} : Lit × DataW H → Nat
  | (.string bytes, d) => bytes.length + uptoBulk d + 1
  | (_, d) => uptoBulk d + 1
 end
def uptoSmall : (H : Type) → List (DataW H) → Bool := fun _ ds => decide (uptoBulkAll ds ≤ 1048576)
def OpenSpec.upto (s : _root_.Go.ChangeSpec) : _root_.Go.OpenSpec := { _root_.Go.OpenSpec.ofChange s with cond := some uptoSmall }

/-- 'weepholelaw01.LitNames', WHERE WHAT IT READS IS OF BULK AT MOST 1048576: true; the input reads as it did. -/
def litNamesUptoRow : OpenClaim := { program := "ytacmfiikdbekbaa", sum := "6730d75142b6263da829c59b1b8ec88c8e19d0d689b29a01025146912a6b9d20", func := "weephole/weepholelaw01.LitNames", spec := "litNames", unfollowed := true, recurses := true, apart := false, narrowed := true }
def LitNamesUptoSaid : Prop := litNamesUptoRow.holds Try.pinned (OpenSpec.upto litNamesSpec)

/-- 'weepholelaw02.CnfNames', WHERE WHAT IT READS IS OF BULK AT MOST 1048576: true; the input reads as it did. -/
def cnfNamesUptoRow : OpenClaim := { program := "ytacmfiikdbekbaa", sum := "6730d75142b6263da829c59b1b8ec88c8e19d0d689b29a01025146912a6b9d20", func := "weephole/weepholelaw02.CnfNames", spec := "cnfNames", unfollowed := true, recurses := true, apart := false, narrowed := true }
def CnfNamesUptoSaid : Prop := cnfNamesUptoRow.holds Try.pinned (OpenSpec.upto cnfNamesSpec)

/-- 'weepholelaw02.CnfCopies', WHERE WHAT IT READS IS OF BULK AT MOST 1048576: true; the input reads as it did. -/
def cnfCopiesUptoRow : OpenClaim := { program := "ytacmfiikdbekbaa", sum := "6730d75142b6263da829c59b1b8ec88c8e19d0d689b29a01025146912a6b9d20", func := "weephole/weepholelaw02.CnfCopies", spec := "cnfCopies", unfollowed := true, recurses := true, apart := false, narrowed := true }
def CnfCopiesUptoSaid : Prop := cnfCopiesUptoRow.holds Try.pinned (OpenSpec.upto cnfCopiesSpec)

/-- 'weepholelaw15.GateValues', WHERE WHAT IT READS IS OF BULK AT MOST 1048576: true; the input reads as it did. -/
def gateValuesUptoRow : OpenClaim := { program := "ytacmfiikdbekbaa", sum := "6730d75142b6263da829c59b1b8ec88c8e19d0d689b29a01025146912a6b9d20", func := "weephole/weepholelaw15.GateValues", spec := "gateValues", unfollowed := true, recurses := true, apart := false, narrowed := true }
def GateValuesUptoSaid : Prop := gateValuesUptoRow.holds Try.pinned (OpenSpec.upto gateValuesSpec)

/-- 'weepholelaw15.GatePartial', WHERE WHAT IT READS IS OF BULK AT MOST 1048576: true; the input reads as it did. -/
def gatePartialUptoRow : OpenClaim := { program := "ytacmfiikdbekbaa", sum := "6730d75142b6263da829c59b1b8ec88c8e19d0d689b29a01025146912a6b9d20", func := "weephole/weepholelaw15.GatePartial", spec := "gatePartial", unfollowed := true, recurses := true, apart := false, narrowed := true }
def GatePartialUptoSaid : Prop := gatePartialUptoRow.holds Try.pinned (OpenSpec.upto gatePartialSpec)

/-- 'weepholelaw15.GateLaws', WHERE WHAT IT READS IS OF BULK AT MOST 1048576: true; the input reads as it did. -/
def gateLawsUptoRow : OpenClaim := { program := "ytacmfiikdbekbaa", sum := "6730d75142b6263da829c59b1b8ec88c8e19d0d689b29a01025146912a6b9d20", func := "weephole/weepholelaw15.GateLaws", spec := "gateLaws", unfollowed := true, recurses := true, apart := false, narrowed := true }
def GateLawsUptoSaid : Prop := gateLawsUptoRow.holds Try.pinned (OpenSpec.upto gateLawsSpec)

/-- 'weepholelaw15.GateNames', WHERE WHAT IT READS IS OF BULK AT MOST 1048576: true; the input reads as it did. -/
def gateNamesUptoRow : OpenClaim := { program := "ytacmfiikdbekbaa", sum := "6730d75142b6263da829c59b1b8ec88c8e19d0d689b29a01025146912a6b9d20", func := "weephole/weepholelaw15.GateNames", spec := "gateNames", unfollowed := true, recurses := true, apart := false, narrowed := true }
def GateNamesUptoSaid : Prop := gateNamesUptoRow.holds Try.pinned (OpenSpec.upto gateNamesSpec)

/-- 'weepholelaw15.GateClauses', WHERE WHAT IT READS IS OF BULK AT MOST 1048576: true; the input reads as it did. -/
def gateClausesUptoRow : OpenClaim := { program := "ytacmfiikdbekbaa", sum := "6730d75142b6263da829c59b1b8ec88c8e19d0d689b29a01025146912a6b9d20", func := "weephole/weepholelaw15.GateClauses", spec := "gateClauses", unfollowed := true, recurses := true, apart := false, narrowed := true }
def GateClausesUptoSaid : Prop := gateClausesUptoRow.holds Try.pinned (OpenSpec.upto gateClausesSpec)

end Rows
end Go.Proofs.Ytacmfiikdbekbaa
