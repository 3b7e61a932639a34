/-
  No cell of these rows narrows 'for every input' (looked for: loops, veiled, ifaces, maps, wideKeys, modest, calm, conditions, laid).
  DERIVED. THE GIVEN ROWS OF THIS SEAT. 17 by the template 'for every input the law returns true; each argument reads behind the call as it read before'; 0 by the template 'total and deterministic' (their statements: YtaekcejenagbgaaTotals.lean).
  GIVEN WITH THE SEED: the statements are not yours to turn. If you find one false, say at which input.
  Laid BY PROGRAM, IN A SANDBOX (cutbox-rows.mjs): the forced cells as the released guide's own fill.sh prints them over the translation 446ea80d1bd50e08… (all of the seat's roots in one cut). By AI agents, Wed Nov 11 2026. No macro, syntax, notation, axiom, sorry.
-/
import Derived.Test.YtaekcejenagbgaaChecked
import GoSem.Claim
import GoSem.ClaimJoined
import GoSem.ClaimMapViews
import Derived.JoinedTies
import Derived.KernelRfl
namespace Go.Proofs.Ytaekcejenagbgaa
/- THE CELL 'sum', in the pinned program and in every row, IS THE sha256 OF THE DUMP (.gsa) THAT YtaekcejenagbgaaProg.lean LOADS. Nothing in Lean hashes anything: it is a label: what it is worth is what the hold of that sum in a sandbox is worth. -/
noncomputable def Try.pinned : Pinned := { name := "ytaekcejenagbgaa", sum := "446ea80d1bd50e08c026205c97002803e83839a19611bc655b4dbebc409bc07f", checked := Try.checked }
namespace Rows
def none {H : Type} : Left H := { results := [], args := [] }

/-- 'weepholelaw02.CnfChecks': WHATEVER THE INPUT: true; the input reads as it did. -/
def cnfChecksSpec : ChangeSpec := { name := "cnfChecks", fn := fun _ => fun
  | [d] => { results := [.lit (.bool true)], args := [d] }
  | _ => none }
def cnfChecksRow : OpenClaim := { program := "ytaekcejenagbgaa", sum := "446ea80d1bd50e08c026205c97002803e83839a19611bc655b4dbebc409bc07f", func := "weephole/weepholelaw02.CnfChecks", spec := "cnfChecks", apart := false }
def CnfChecksSaid : Prop := cnfChecksRow.holds Try.pinned (OpenSpec.ofChange cnfChecksSpec)

/-- ITS FALSE NEIGHBOUR: 'it returns false'. Refute it at one input. -/
def cnfChecksWrong : ChangeSpec := { name := "cnfChecks", fn := fun _ => fun
  | [d] => { results := [.lit (.bool false)], args := [d] }
  | _ => none }
def CnfChecksWrongFalsely : Prop := cnfChecksRow.holds Try.pinned (OpenSpec.ofChange cnfChecksWrong)

/-- 'weepholelaw02.CnfFirsts': WHATEVER THE INPUT: true; the input reads as it did. -/
def cnfFirstsSpec : ChangeSpec := { name := "cnfFirsts", fn := fun _ => fun
  | [d1, d2] => { results := [.lit (.bool true)], args := [d1, d2] }
  | _ => none }
def cnfFirstsRow : OpenClaim := { program := "ytaekcejenagbgaa", sum := "446ea80d1bd50e08c026205c97002803e83839a19611bc655b4dbebc409bc07f", func := "weephole/weepholelaw02.CnfFirsts", spec := "cnfFirsts", apart := false }
def CnfFirstsSaid : Prop := cnfFirstsRow.holds Try.pinned (OpenSpec.ofChange cnfFirstsSpec)

/-- ITS FALSE NEIGHBOUR: 'it returns false'. Refute it at one input. -/
def cnfFirstsWrong : ChangeSpec := { name := "cnfFirsts", fn := fun _ => fun
  | [d1, d2] => { results := [.lit (.bool false)], args := [d1, d2] }
  | _ => none }
def CnfFirstsWrongFalsely : Prop := cnfFirstsRow.holds Try.pinned (OpenSpec.ofChange cnfFirstsWrong)

/-- 'weepholelaw02.CnfAll': WHATEVER THE INPUT: true; the input reads as it did. -/
def cnfAllSpec : ChangeSpec := { name := "cnfAll", fn := fun _ => fun
  | [d1, d2, d3] => { results := [.lit (.bool true)], args := [d1, d2, d3] }
  | _ => none }
def cnfAllRow : OpenClaim := { program := "ytaekcejenagbgaa", sum := "446ea80d1bd50e08c026205c97002803e83839a19611bc655b4dbebc409bc07f", func := "weephole/weepholelaw02.CnfAll", spec := "cnfAll", apart := false }
def CnfAllSaid : Prop := cnfAllRow.holds Try.pinned (OpenSpec.ofChange cnfAllSpec)

/-- ITS FALSE NEIGHBOUR: 'it returns false'. Refute it at one input. -/
def cnfAllWrong : ChangeSpec := { name := "cnfAll", fn := fun _ => fun
  | [d1, d2, d3] => { results := [.lit (.bool false)], args := [d1, d2, d3] }
  | _ => none }
def CnfAllWrongFalsely : Prop := cnfAllRow.holds Try.pinned (OpenSpec.ofChange cnfAllWrong)

/-- 'weepholelaw02.CnfMore': WHATEVER THE INPUT: true; the input reads as it did. -/
def cnfMoreSpec : ChangeSpec := { name := "cnfMore", fn := fun _ => fun
  | [d1, d2, d3, d4] => { results := [.lit (.bool true)], args := [d1, d2, d3, d4] }
  | _ => none }
def cnfMoreRow : OpenClaim := { program := "ytaekcejenagbgaa", sum := "446ea80d1bd50e08c026205c97002803e83839a19611bc655b4dbebc409bc07f", func := "weephole/weepholelaw02.CnfMore", spec := "cnfMore", apart := false }
def CnfMoreSaid : Prop := cnfMoreRow.holds Try.pinned (OpenSpec.ofChange cnfMoreSpec)

/-- ITS FALSE NEIGHBOUR: 'it returns false'. Refute it at one input. -/
def cnfMoreWrong : ChangeSpec := { name := "cnfMore", fn := fun _ => fun
  | [d1, d2, d3, d4] => { results := [.lit (.bool false)], args := [d1, d2, d3, d4] }
  | _ => none }
def CnfMoreWrongFalsely : Prop := cnfMoreRow.holds Try.pinned (OpenSpec.ofChange cnfMoreWrong)

/-- 'weepholelaw02.CnfUnused': WHATEVER THE INPUT: true; the input reads as it did. -/
def cnfUnusedSpec : ChangeSpec := { name := "cnfUnused", fn := fun _ => fun
  | [d1, d2, d3, d4] => { results := [.lit (.bool true)], args := [d1, d2, d3, d4] }
  | _ => none }
def cnfUnusedRow : OpenClaim := { program := "ytaekcejenagbgaa", sum := "446ea80d1bd50e08c026205c97002803e83839a19611bc655b4dbebc409bc07f", func := "weephole/weepholelaw02.CnfUnused", spec := "cnfUnused", apart := false }
def CnfUnusedSaid : Prop := cnfUnusedRow.holds Try.pinned (OpenSpec.ofChange cnfUnusedSpec)

/-- ITS FALSE NEIGHBOUR: 'it returns false'. Refute it at one input. -/
def cnfUnusedWrong : ChangeSpec := { name := "cnfUnused", fn := fun _ => fun
  | [d1, d2, d3, d4] => { results := [.lit (.bool false)], args := [d1, d2, d3, d4] }
  | _ => none }
def CnfUnusedWrongFalsely : Prop := cnfUnusedRow.holds Try.pinned (OpenSpec.ofChange cnfUnusedWrong)

/-- 'weepholelaw01.LitChecks': WHATEVER THE INPUT: true; the input reads as it did. -/
def litChecksSpec : ChangeSpec := { name := "litChecks", fn := fun _ => fun
  | [d1, d2] => { results := [.lit (.bool true)], args := [d1, d2] }
  | _ => none }
def litChecksRow : OpenClaim := { program := "ytaekcejenagbgaa", sum := "446ea80d1bd50e08c026205c97002803e83839a19611bc655b4dbebc409bc07f", func := "weephole/weepholelaw01.LitChecks", spec := "litChecks", unfollowed := true, recurses := true, apart := false }
def LitChecksSaid : Prop := litChecksRow.holds Try.pinned (OpenSpec.ofChange litChecksSpec)

/-- ITS FALSE NEIGHBOUR: 'it returns false'. Refute it at one input. -/
def litChecksWrong : ChangeSpec := { name := "litChecks", fn := fun _ => fun
  | [d1, d2] => { results := [.lit (.bool false)], args := [d1, d2] }
  | _ => none }
def LitChecksWrongFalsely : Prop := litChecksRow.holds Try.pinned (OpenSpec.ofChange litChecksWrong)

/-- 'weepholelaw01.LitNorms': WHATEVER THE INPUT: true; the input reads as it did. -/
def litNormsSpec : ChangeSpec := { name := "litNorms", fn := fun _ => fun
  | [d1, d2, d3] => { results := [.lit (.bool true)], args := [d1, d2, d3] }
  | _ => none }
def litNormsRow : OpenClaim := { program := "ytaekcejenagbgaa", sum := "446ea80d1bd50e08c026205c97002803e83839a19611bc655b4dbebc409bc07f", func := "weephole/weepholelaw01.LitNorms", spec := "litNorms", unfollowed := true, recurses := true, apart := false }
def LitNormsSaid : Prop := litNormsRow.holds Try.pinned (OpenSpec.ofChange litNormsSpec)

/-- ITS FALSE NEIGHBOUR: 'it returns false'. Refute it at one input. -/
def litNormsWrong : ChangeSpec := { name := "litNorms", fn := fun _ => fun
  | [d1, d2, d3] => { results := [.lit (.bool false)], args := [d1, d2, d3] }
  | _ => none }
def LitNormsWrongFalsely : Prop := litNormsRow.holds Try.pinned (OpenSpec.ofChange litNormsWrong)

/-- 'weepholelaw01.LitHolds': WHATEVER THE INPUT: true; the input reads as it did. -/
def litHoldsSpec : ChangeSpec := { name := "litHolds", fn := fun _ => fun
  | [d1, d2] => { results := [.lit (.bool true)], args := [d1, d2] }
  | _ => none }
def litHoldsRow : OpenClaim := { program := "ytaekcejenagbgaa", sum := "446ea80d1bd50e08c026205c97002803e83839a19611bc655b4dbebc409bc07f", func := "weephole/weepholelaw01.LitHolds", spec := "litHolds", unfollowed := true, recurses := true, apart := false }
def LitHoldsSaid : Prop := litHoldsRow.holds Try.pinned (OpenSpec.ofChange litHoldsSpec)

/-- ITS FALSE NEIGHBOUR: 'it returns false'. Refute it at one input. -/
def litHoldsWrong : ChangeSpec := { name := "litHolds", fn := fun _ => fun
  | [d1, d2] => { results := [.lit (.bool false)], args := [d1, d2] }
  | _ => none }
def LitHoldsWrongFalsely : Prop := litHoldsRow.holds Try.pinned (OpenSpec.ofChange litHoldsWrong)

/-- 'weepholelaw01.LitNames': WHATEVER THE INPUT: true; the input reads as it did. -/
def litNamesSpec : ChangeSpec := { name := "litNames", fn := fun _ => fun
  | [] => { results := [.lit (.bool true)], args := [] }
  | _ => none }
def litNamesRow : OpenClaim := { program := "ytaekcejenagbgaa", sum := "446ea80d1bd50e08c026205c97002803e83839a19611bc655b4dbebc409bc07f", func := "weephole/weepholelaw01.LitNames", spec := "litNames", unfollowed := true, recurses := true, apart := false }
def LitNamesSaid : Prop := litNamesRow.holds Try.pinned (OpenSpec.ofChange litNamesSpec)

/-- ITS FALSE NEIGHBOUR: 'it returns false'. Refute it at one input. -/
def litNamesWrong : ChangeSpec := { name := "litNames", fn := fun _ => fun
  | [] => { results := [.lit (.bool false)], args := [] }
  | _ => none }
def LitNamesWrongFalsely : Prop := litNamesRow.holds Try.pinned (OpenSpec.ofChange litNamesWrong)

/-- 'weepholelaw01.LitNormal': WHATEVER THE INPUT: true; the input reads as it did. -/
def litNormalSpec : ChangeSpec := { name := "litNormal", fn := fun _ => fun
  | [d1, d2] => { results := [.lit (.bool true)], args := [d1, d2] }
  | _ => none }
def litNormalRow : OpenClaim := { program := "ytaekcejenagbgaa", sum := "446ea80d1bd50e08c026205c97002803e83839a19611bc655b4dbebc409bc07f", func := "weephole/weepholelaw01.LitNormal", spec := "litNormal", unfollowed := true, recurses := true, apart := false }
def LitNormalSaid : Prop := litNormalRow.holds Try.pinned (OpenSpec.ofChange litNormalSpec)

/-- ITS FALSE NEIGHBOUR: 'it returns false'. Refute it at one input. -/
def litNormalWrong : ChangeSpec := { name := "litNormal", fn := fun _ => fun
  | [d1, d2] => { results := [.lit (.bool false)], args := [d1, d2] }
  | _ => none }
def LitNormalWrongFalsely : Prop := litNormalRow.holds Try.pinned (OpenSpec.ofChange litNormalWrong)

/-- 'weepholelaw01.LitMeans': WHATEVER THE INPUT: true; the input reads as it did. -/
def litMeansSpec : ChangeSpec := { name := "litMeans", fn := fun _ => fun
  | [d1, d2] => { results := [.lit (.bool true)], args := [d1, d2] }
  | _ => none }
def litMeansRow : OpenClaim := { program := "ytaekcejenagbgaa", sum := "446ea80d1bd50e08c026205c97002803e83839a19611bc655b4dbebc409bc07f", func := "weephole/weepholelaw01.LitMeans", spec := "litMeans", unfollowed := true, recurses := true, apart := false }
def LitMeansSaid : Prop := litMeansRow.holds Try.pinned (OpenSpec.ofChange litMeansSpec)

/-- ITS FALSE NEIGHBOUR: 'it returns false'. Refute it at one input. -/
def litMeansWrong : ChangeSpec := { name := "litMeans", fn := fun _ => fun
  | [d1, d2] => { results := [.lit (.bool false)], args := [d1, d2] }
  | _ => none }
def LitMeansWrongFalsely : Prop := litMeansRow.holds Try.pinned (OpenSpec.ofChange litMeansWrong)

/-- 'weepholelaw01.LitOpposites': WHATEVER THE INPUT: true; the input reads as it did. -/
def litOppositesSpec : ChangeSpec := { name := "litOpposites", fn := fun _ => fun
  | [d1, d2] => { results := [.lit (.bool true)], args := [d1, d2] }
  | _ => none }
def litOppositesRow : OpenClaim := { program := "ytaekcejenagbgaa", sum := "446ea80d1bd50e08c026205c97002803e83839a19611bc655b4dbebc409bc07f", func := "weephole/weepholelaw01.LitOpposites", spec := "litOpposites", unfollowed := true, recurses := true, apart := false }
def LitOppositesSaid : Prop := litOppositesRow.holds Try.pinned (OpenSpec.ofChange litOppositesSpec)

/-- ITS FALSE NEIGHBOUR: 'it returns false'. Refute it at one input. -/
def litOppositesWrong : ChangeSpec := { name := "litOpposites", fn := fun _ => fun
  | [d1, d2] => { results := [.lit (.bool false)], args := [d1, d2] }
  | _ => none }
def LitOppositesWrongFalsely : Prop := litOppositesRow.holds Try.pinned (OpenSpec.ofChange litOppositesWrong)

/-- 'weepholelaw01.LitOrder': WHATEVER THE INPUT: true; the input reads as it did. -/
def litOrderSpec : ChangeSpec := { name := "litOrder", fn := fun _ => fun
  | [d1, d2, d3] => { results := [.lit (.bool true)], args := [d1, d2, d3] }
  | _ => none }
def litOrderRow : OpenClaim := { program := "ytaekcejenagbgaa", sum := "446ea80d1bd50e08c026205c97002803e83839a19611bc655b4dbebc409bc07f", func := "weephole/weepholelaw01.LitOrder", spec := "litOrder", unfollowed := true, recurses := true, apart := false }
def LitOrderSaid : Prop := litOrderRow.holds Try.pinned (OpenSpec.ofChange litOrderSpec)

/-- ITS FALSE NEIGHBOUR: 'it returns false'. Refute it at one input. -/
def litOrderWrong : ChangeSpec := { name := "litOrder", fn := fun _ => fun
  | [d1, d2, d3] => { results := [.lit (.bool false)], args := [d1, d2, d3] }
  | _ => none }
def LitOrderWrongFalsely : Prop := litOrderRow.holds Try.pinned (OpenSpec.ofChange litOrderWrong)

/-- 'weepholelaw01.LitWeaker': WHATEVER THE INPUT: true; the input reads as it did. -/
def litWeakerSpec : ChangeSpec := { name := "litWeaker", fn := fun _ => fun
  | [d1, d2, d3, d4] => { results := [.lit (.bool true)], args := [d1, d2, d3, d4] }
  | _ => none }
def litWeakerRow : OpenClaim := { program := "ytaekcejenagbgaa", sum := "446ea80d1bd50e08c026205c97002803e83839a19611bc655b4dbebc409bc07f", func := "weephole/weepholelaw01.LitWeaker", spec := "litWeaker", unfollowed := true, recurses := true, apart := false }
def LitWeakerSaid : Prop := litWeakerRow.holds Try.pinned (OpenSpec.ofChange litWeakerSpec)

/-- ITS FALSE NEIGHBOUR: 'it returns false'. Refute it at one input. -/
def litWeakerWrong : ChangeSpec := { name := "litWeaker", fn := fun _ => fun
  | [d1, d2, d3, d4] => { results := [.lit (.bool false)], args := [d1, d2, d3, d4] }
  | _ => none }
def LitWeakerWrongFalsely : Prop := litWeakerRow.holds Try.pinned (OpenSpec.ofChange litWeakerWrong)

/-- 'weepholelaw02.CnfNames': WHATEVER THE INPUT: true; the input reads as it did. -/
def cnfNamesSpec : ChangeSpec := { name := "cnfNames", fn := fun _ => fun
  | [] => { results := [.lit (.bool true)], args := [] }
  | _ => none }
def cnfNamesRow : OpenClaim := { program := "ytaekcejenagbgaa", sum := "446ea80d1bd50e08c026205c97002803e83839a19611bc655b4dbebc409bc07f", func := "weephole/weepholelaw02.CnfNames", spec := "cnfNames", unfollowed := true, recurses := true, apart := false }
def CnfNamesSaid : Prop := cnfNamesRow.holds Try.pinned (OpenSpec.ofChange cnfNamesSpec)

/-- ITS FALSE NEIGHBOUR: 'it returns false'. Refute it at one input. -/
def cnfNamesWrong : ChangeSpec := { name := "cnfNames", fn := fun _ => fun
  | [] => { results := [.lit (.bool false)], args := [] }
  | _ => none }
def CnfNamesWrongFalsely : Prop := cnfNamesRow.holds Try.pinned (OpenSpec.ofChange cnfNamesWrong)

/-- 'weepholelaw02.CnfCopies': WHATEVER THE INPUT: true; the input reads as it did. -/
def cnfCopiesSpec : ChangeSpec := { name := "cnfCopies", fn := fun _ => fun
  | [d1, d2, d3, d4] => { results := [.lit (.bool true)], args := [d1, d2, d3, d4] }
  | _ => none }
def cnfCopiesRow : OpenClaim := { program := "ytaekcejenagbgaa", sum := "446ea80d1bd50e08c026205c97002803e83839a19611bc655b4dbebc409bc07f", func := "weephole/weepholelaw02.CnfCopies", spec := "cnfCopies", unfollowed := true, recurses := true, apart := false }
def CnfCopiesSaid : Prop := cnfCopiesRow.holds Try.pinned (OpenSpec.ofChange cnfCopiesSpec)

/-- ITS FALSE NEIGHBOUR: 'it returns false'. Refute it at one input. -/
def cnfCopiesWrong : ChangeSpec := { name := "cnfCopies", fn := fun _ => fun
  | [d1, d2, d3, d4] => { results := [.lit (.bool false)], args := [d1, d2, d3, d4] }
  | _ => none }
def CnfCopiesWrongFalsely : Prop := cnfCopiesRow.holds Try.pinned (OpenSpec.ofChange cnfCopiesWrong)

/-- 'weepholelaw02.CnfNormal': WHATEVER THE INPUT: true; the input reads as it did. -/
def cnfNormalSpec : ChangeSpec := { name := "cnfNormal", fn := fun _ => fun
  | [d1, d2, d3] => { results := [.lit (.bool true)], args := [d1, d2, d3] }
  | _ => none }
def cnfNormalRow : OpenClaim := { program := "ytaekcejenagbgaa", sum := "446ea80d1bd50e08c026205c97002803e83839a19611bc655b4dbebc409bc07f", func := "weephole/weepholelaw02.CnfNormal", spec := "cnfNormal", unfollowed := true, recurses := true, apart := false }
def CnfNormalSaid : Prop := cnfNormalRow.holds Try.pinned (OpenSpec.ofChange cnfNormalSpec)

/-- ITS FALSE NEIGHBOUR: 'it returns false'. Refute it at one input. -/
def cnfNormalWrong : ChangeSpec := { name := "cnfNormal", fn := fun _ => fun
  | [d1, d2, d3] => { results := [.lit (.bool false)], args := [d1, d2, d3] }
  | _ => none }
def CnfNormalWrongFalsely : Prop := cnfNormalRow.holds Try.pinned (OpenSpec.ofChange cnfNormalWrong)

/- THE SECOND FORM. 'bulk': how many values and letters a reading holds, each counted each time it is reached (what is shared counts as often as it is met; a slice's spare places count too). A statement '..UptoSaid' is the law's where the arguments, and the package variables that the reading takes, are together of bulk at most 1048576: NARROWER than '..Said'. Prove '..Said' where nothing that the law and all that it calls make is longer than what came in: it says more and counts as full. Else prove '..UptoSaid'. A law counts once. -/
mutual
def uptoBulk {H : Type} : DataW H → Nat
  | .lit (.string bytes) => bytes.length + 1
  | .lit _ => 1
  | .nil => 1
  | .ptr d => uptoBulk d + 1
  | .slice elems spare => uptoBulkAll elems + uptoBulkAll spare + 1
  | .agg parts => uptoBulkAll parts + 1
  | .iface _ d => uptoBulk d + 1
  | .map entries => uptoBulkEntries entries + 1
  | .held _ => 1
def uptoBulkAll {H : Type} : List (DataW H) → Nat
  | [] => 0
  | d :: r => uptoBulk d + uptoBulkAll r
def uptoBulkEntries {H : Type} : List (Lit × DataW H) → Nat
  | [] => 0
  | x :: r => uptoBulkEntry x + uptoBulkEntries r
def uptoBulkEntry {H : Type} : Lit × DataW H → Nat
  | (.string bytes, d) => bytes.length + uptoBulk d + 1
  | (_, d) => uptoBulk d + 1
 end
def uptoSmall : (H : Type) → List (DataW H) → Bool := fun _ ds => decide (uptoBulkAll ds ≤ 1048576)
def OpenSpec.upto (s : _root_.Go.ChangeSpec) : _root_.Go.OpenSpec := { _root_.Go.OpenSpec.ofChange s with cond := some uptoSmall }

/-- 'weepholelaw02.CnfChecks', WHERE WHAT IT READS IS OF BULK AT MOST 1048576: true; the input reads as it did. -/
def cnfChecksUptoRow : OpenClaim := { program := "ytaekcejenagbgaa", sum := "446ea80d1bd50e08c026205c97002803e83839a19611bc655b4dbebc409bc07f", func := "weephole/weepholelaw02.CnfChecks", spec := "cnfChecks", apart := false, narrowed := true }
def CnfChecksUptoSaid : Prop := cnfChecksUptoRow.holds Try.pinned (OpenSpec.upto cnfChecksSpec)

/-- 'weepholelaw02.CnfFirsts', WHERE WHAT IT READS IS OF BULK AT MOST 1048576: true; the input reads as it did. -/
def cnfFirstsUptoRow : OpenClaim := { program := "ytaekcejenagbgaa", sum := "446ea80d1bd50e08c026205c97002803e83839a19611bc655b4dbebc409bc07f", func := "weephole/weepholelaw02.CnfFirsts", spec := "cnfFirsts", apart := false, narrowed := true }
def CnfFirstsUptoSaid : Prop := cnfFirstsUptoRow.holds Try.pinned (OpenSpec.upto cnfFirstsSpec)

/-- 'weepholelaw02.CnfAll', WHERE WHAT IT READS IS OF BULK AT MOST 1048576: true; the input reads as it did. -/
def cnfAllUptoRow : OpenClaim := { program := "ytaekcejenagbgaa", sum := "446ea80d1bd50e08c026205c97002803e83839a19611bc655b4dbebc409bc07f", func := "weephole/weepholelaw02.CnfAll", spec := "cnfAll", apart := false, narrowed := true }
def CnfAllUptoSaid : Prop := cnfAllUptoRow.holds Try.pinned (OpenSpec.upto cnfAllSpec)

/-- 'weepholelaw02.CnfMore', WHERE WHAT IT READS IS OF BULK AT MOST 1048576: true; the input reads as it did. -/
def cnfMoreUptoRow : OpenClaim := { program := "ytaekcejenagbgaa", sum := "446ea80d1bd50e08c026205c97002803e83839a19611bc655b4dbebc409bc07f", func := "weephole/weepholelaw02.CnfMore", spec := "cnfMore", apart := false, narrowed := true }
def CnfMoreUptoSaid : Prop := cnfMoreUptoRow.holds Try.pinned (OpenSpec.upto cnfMoreSpec)

/-- 'weepholelaw02.CnfUnused', WHERE WHAT IT READS IS OF BULK AT MOST 1048576: true; the input reads as it did. -/
def cnfUnusedUptoRow : OpenClaim := { program := "ytaekcejenagbgaa", sum := "446ea80d1bd50e08c026205c97002803e83839a19611bc655b4dbebc409bc07f", func := "weephole/weepholelaw02.CnfUnused", spec := "cnfUnused", apart := false, narrowed := true }
def CnfUnusedUptoSaid : Prop := cnfUnusedUptoRow.holds Try.pinned (OpenSpec.upto cnfUnusedSpec)

/-- 'weepholelaw01.LitChecks', WHERE WHAT IT READS IS OF BULK AT MOST 1048576: true; the input reads as it did. -/
def litChecksUptoRow : OpenClaim := { program := "ytaekcejenagbgaa", sum := "446ea80d1bd50e08c026205c97002803e83839a19611bc655b4dbebc409bc07f", func := "weephole/weepholelaw01.LitChecks", spec := "litChecks", unfollowed := true, recurses := true, apart := false, narrowed := true }
def LitChecksUptoSaid : Prop := litChecksUptoRow.holds Try.pinned (OpenSpec.upto litChecksSpec)

/-- 'weepholelaw01.LitNorms', WHERE WHAT IT READS IS OF BULK AT MOST 1048576: true; the input reads as it did. -/
def litNormsUptoRow : OpenClaim := { program := "ytaekcejenagbgaa", sum := "446ea80d1bd50e08c026205c97002803e83839a19611bc655b4dbebc409bc07f", func := "weephole/weepholelaw01.LitNorms", spec := "litNorms", unfollowed := true, recurses := true, apart := false, narrowed := true }
def LitNormsUptoSaid : Prop := litNormsUptoRow.holds Try.pinned (OpenSpec.upto litNormsSpec)

/-- 'weepholelaw01.LitHolds', WHERE WHAT IT READS IS OF BULK AT MOST 1048576: true; the input reads as it did. -/
def litHoldsUptoRow : OpenClaim := { program := "ytaekcejenagbgaa", sum := "446ea80d1bd50e08c026205c97002803e83839a19611bc655b4dbebc409bc07f", func := "weephole/weepholelaw01.LitHolds", spec := "litHolds", unfollowed := true, recurses := true, apart := false, narrowed := true }
def LitHoldsUptoSaid : Prop := litHoldsUptoRow.holds Try.pinned (OpenSpec.upto litHoldsSpec)

/-- 'weepholelaw01.LitNames', WHERE WHAT IT READS IS OF BULK AT MOST 1048576: true; the input reads as it did. -/
def litNamesUptoRow : OpenClaim := { program := "ytaekcejenagbgaa", sum := "446ea80d1bd50e08c026205c97002803e83839a19611bc655b4dbebc409bc07f", func := "weephole/weepholelaw01.LitNames", spec := "litNames", unfollowed := true, recurses := true, apart := false, narrowed := true }
def LitNamesUptoSaid : Prop := litNamesUptoRow.holds Try.pinned (OpenSpec.upto litNamesSpec)

/-- 'weepholelaw01.LitNormal', WHERE WHAT IT READS IS OF BULK AT MOST 1048576: true; the input reads as it did. -/
def litNormalUptoRow : OpenClaim := { program := "ytaekcejenagbgaa", sum := "446ea80d1bd50e08c026205c97002803e83839a19611bc655b4dbebc409bc07f", func := "weephole/weepholelaw01.LitNormal", spec := "litNormal", unfollowed := true, recurses := true, apart := false, narrowed := true }
def LitNormalUptoSaid : Prop := litNormalUptoRow.holds Try.pinned (OpenSpec.upto litNormalSpec)

/-- 'weepholelaw01.LitMeans', WHERE WHAT IT READS IS OF BULK AT MOST 1048576: true; the input reads as it did. -/
def litMeansUptoRow : OpenClaim := { program := "ytaekcejenagbgaa", sum := "446ea80d1bd50e08c026205c97002803e83839a19611bc655b4dbebc409bc07f", func := "weephole/weepholelaw01.LitMeans", spec := "litMeans", unfollowed := true, recurses := true, apart := false, narrowed := true }
def LitMeansUptoSaid : Prop := litMeansUptoRow.holds Try.pinned (OpenSpec.upto litMeansSpec)

/-- 'weepholelaw01.LitOpposites', WHERE WHAT IT READS IS OF BULK AT MOST 1048576: true; the input reads as it did. -/
def litOppositesUptoRow : OpenClaim := { program := "ytaekcejenagbgaa", sum := "446ea80d1bd50e08c026205c97002803e83839a19611bc655b4dbebc409bc07f", func := "weephole/weepholelaw01.LitOpposites", spec := "litOpposites", unfollowed := true, recurses := true, apart := false, narrowed := true }
def LitOppositesUptoSaid : Prop := litOppositesUptoRow.holds Try.pinned (OpenSpec.upto litOppositesSpec)

/-- 'weepholelaw01.LitOrder', WHERE WHAT IT READS IS OF BULK AT MOST 1048576: true; the input reads as it did. -/
def litOrderUptoRow : OpenClaim := { program := "ytaekcejenagbgaa", sum := "446ea80d1bd50e08c026205c97002803e83839a19611bc655b4dbebc409bc07f", func := "weephole/weepholelaw01.LitOrder", spec := "litOrder", unfollowed := true, recurses := true, apart := false, narrowed := true }
def LitOrderUptoSaid : Prop := litOrderUptoRow.holds Try.pinned (OpenSpec.upto litOrderSpec)

/-- 'weepholelaw01.LitWeaker', WHERE WHAT IT READS IS OF BULK AT MOST 1048576: true; the input reads as it did. -/
def litWeakerUptoRow : OpenClaim := { program := "ytaekcejenagbgaa", sum := "446ea80d1bd50e08c026205c97002803e83839a19611bc655b4dbebc409bc07f", func := "weephole/weepholelaw01.LitWeaker", spec := "litWeaker", unfollowed := true, recurses := true, apart := false, narrowed := true }
def LitWeakerUptoSaid : Prop := litWeakerUptoRow.holds Try.pinned (OpenSpec.upto litWeakerSpec)

/-- 'weepholelaw02.CnfNames', WHERE WHAT IT READS IS OF BULK AT MOST 1048576: true; the input reads as it did. -/
def cnfNamesUptoRow : OpenClaim := { program := "ytaekcejenagbgaa", sum := "446ea80d1bd50e08c026205c97002803e83839a19611bc655b4dbebc409bc07f", func := "weephole/weepholelaw02.CnfNames", spec := "cnfNames", unfollowed := true, recurses := true, apart := false, narrowed := true }
def CnfNamesUptoSaid : Prop := cnfNamesUptoRow.holds Try.pinned (OpenSpec.upto cnfNamesSpec)

/-- 'weepholelaw02.CnfCopies', WHERE WHAT IT READS IS OF BULK AT MOST 1048576: true; the input reads as it did. -/
def cnfCopiesUptoRow : OpenClaim := { program := "ytaekcejenagbgaa", sum := "446ea80d1bd50e08c026205c97002803e83839a19611bc655b4dbebc409bc07f", func := "weephole/weepholelaw02.CnfCopies", spec := "cnfCopies", unfollowed := true, recurses := true, apart := false, narrowed := true }
def CnfCopiesUptoSaid : Prop := cnfCopiesUptoRow.holds Try.pinned (OpenSpec.upto cnfCopiesSpec)

/-- 'weepholelaw02.CnfNormal', WHERE WHAT IT READS IS OF BULK AT MOST 1048576: true; the input reads as it did. -/
def cnfNormalUptoRow : OpenClaim := { program := "ytaekcejenagbgaa", sum := "446ea80d1bd50e08c026205c97002803e83839a19611bc655b4dbebc409bc07f", func := "weephole/weepholelaw02.CnfNormal", spec := "cnfNormal", unfollowed := true, recurses := true, apart := false, narrowed := true }
def CnfNormalUptoSaid : Prop := cnfNormalUptoRow.holds Try.pinned (OpenSpec.upto cnfNormalSpec)

end Rows
end Go.Proofs.Ytaekcejenagbgaa
