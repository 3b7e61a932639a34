/-
  No cell of these rows narrows 'for every input' (looked for: loops, veiled, ifaces, maps, wideKeys, modest, calm, conditions, laid).
  DERIVED. THE GIVEN ROWS OF THIS SEAT. 11 by the template 'for every input the law returns true; each argument reads behind the call as it read before'; 0 by the template 'total and deterministic' (their statements: YtfofabbnbmieoaaTotals.lean).
  GIVEN WITH THE SEED: the statements are not yours to turn. If you find one false, say at which input.
  Laid BY PROGRAM, IN A SANDBOX (cutbox-rows.mjs): the forced cells as the released guide's own fill.sh prints them over the translation b4ec062776a7ac13… (all of the seat's roots in one cut). By AI agents, Wed Nov 11 2026. No macro, syntax, notation, axiom, sorry.
-/
import Derived.Test.YtfofabbnbmieoaaChecked
import GoSem.Claim
import GoSem.ClaimJoined
import GoSem.ClaimMapViews
import Derived.JoinedTies
import Derived.KernelRfl
namespace Go.Proofs.Ytfofabbnbmieoaa
/- THE CELL 'sum', in the pinned program and in every row, IS THE sha256 OF THE DUMP (.gsa) THAT YtfofabbnbmieoaaProg.lean LOADS. Nothing in Lean hashes anything: it is a label: what it is worth is what the hold of that sum in a sandbox is worth. -/
noncomputable def Try.pinned : Pinned := { name := "ytfofabbnbmieoaa", sum := "b4ec062776a7ac13500c38e6b0732e83ac2eba05a09a0dd7972f53044c868c22", checked := Try.checked }
namespace Rows
def none {H : Type} : Left H := { results := [], args := [] }

/-- 'weepholelaw01.LitNames': WHATEVER THE INPUT: true; the input reads as it did. -/
def litNamesSpec : ChangeSpec := { name := "litNames", fn := fun _ => fun
  | [] => { results := [.lit (.bool true)], args := [] }
  | _ => none }
def litNamesRow : OpenClaim := { program := "ytfofabbnbmieoaa", sum := "b4ec062776a7ac13500c38e6b0732e83ac2eba05a09a0dd7972f53044c868c22", func := "weephole/weepholelaw01.LitNames", spec := "litNames", unfollowed := true, recurses := true, apart := false }
def LitNamesSaid : Prop := litNamesRow.holds Try.pinned (OpenSpec.ofChange litNamesSpec)

/-- ITS FALSE NEIGHBOUR: 'it returns false'. Refute it at one input. -/
def litNamesWrong : ChangeSpec := { name := "litNames", fn := fun _ => fun
  | [] => { results := [.lit (.bool false)], args := [] }
  | _ => none }
def LitNamesWrongFalsely : Prop := litNamesRow.holds Try.pinned (OpenSpec.ofChange litNamesWrong)

/-- 'weepholelaw02.CnfNames': WHATEVER THE INPUT: true; the input reads as it did. -/
def cnfNamesSpec : ChangeSpec := { name := "cnfNames", fn := fun _ => fun
  | [] => { results := [.lit (.bool true)], args := [] }
  | _ => none }
def cnfNamesRow : OpenClaim := { program := "ytfofabbnbmieoaa", sum := "b4ec062776a7ac13500c38e6b0732e83ac2eba05a09a0dd7972f53044c868c22", func := "weephole/weepholelaw02.CnfNames", spec := "cnfNames", unfollowed := true, recurses := true, apart := false }
def CnfNamesSaid : Prop := cnfNamesRow.holds Try.pinned (OpenSpec.ofChange cnfNamesSpec)

/-- ITS FALSE NEIGHBOUR: 'it returns false'. Refute it at one input. -/
def cnfNamesWrong : ChangeSpec := { name := "cnfNames", fn := fun _ => fun
  | [] => { results := [.lit (.bool false)], args := [] }
  | _ => none }
def CnfNamesWrongFalsely : Prop := cnfNamesRow.holds Try.pinned (OpenSpec.ofChange cnfNamesWrong)

/-- 'weepholelaw02.CnfCopies': WHATEVER THE INPUT: true; the input reads as it did. -/
def cnfCopiesSpec : ChangeSpec := { name := "cnfCopies", fn := fun _ => fun
  | [d1, d2, d3, d4] => { results := [.lit (.bool true)], args := [d1, d2, d3, d4] }
  | _ => none }
def cnfCopiesRow : OpenClaim := { program := "ytfofabbnbmieoaa", sum := "b4ec062776a7ac13500c38e6b0732e83ac2eba05a09a0dd7972f53044c868c22", func := "weephole/weepholelaw02.CnfCopies", spec := "cnfCopies", unfollowed := true, recurses := true, apart := false }
def CnfCopiesSaid : Prop := cnfCopiesRow.holds Try.pinned (OpenSpec.ofChange cnfCopiesSpec)

/-- ITS FALSE NEIGHBOUR: 'it returns false'. Refute it at one input. -/
def cnfCopiesWrong : ChangeSpec := { name := "cnfCopies", fn := fun _ => fun
  | [d1, d2, d3, d4] => { results := [.lit (.bool false)], args := [d1, d2, d3, d4] }
  | _ => none }
def CnfCopiesWrongFalsely : Prop := cnfCopiesRow.holds Try.pinned (OpenSpec.ofChange cnfCopiesWrong)

/-- 'weepholelaw07.SolveImplied': WHATEVER THE INPUT: true; the input reads as it did. -/
def solveImpliedSpec : ChangeSpec := { name := "solveImplied", fn := fun _ => fun
  | [d1, d2, d3] => { results := [.lit (.bool true)], args := [d1, d2, d3] }
  | _ => none }
def solveImpliedRow : OpenClaim := { program := "ytfofabbnbmieoaa", sum := "b4ec062776a7ac13500c38e6b0732e83ac2eba05a09a0dd7972f53044c868c22", func := "weephole/weepholelaw07.SolveImplied", spec := "solveImplied", unfollowed := true, recurses := true, apart := false }
def SolveImpliedSaid : Prop := solveImpliedRow.holds Try.pinned (OpenSpec.ofChange solveImpliedSpec)

/-- ITS FALSE NEIGHBOUR: 'it returns false'. Refute it at one input. -/
def solveImpliedWrong : ChangeSpec := { name := "solveImplied", fn := fun _ => fun
  | [d1, d2, d3] => { results := [.lit (.bool false)], args := [d1, d2, d3] }
  | _ => none }
def SolveImpliedWrongFalsely : Prop := solveImpliedRow.holds Try.pinned (OpenSpec.ofChange solveImpliedWrong)

/-- 'weepholelaw07.SolveAnswers': WHATEVER THE INPUT: true; the input reads as it did. -/
def solveAnswersSpec : ChangeSpec := { name := "solveAnswers", fn := fun _ => fun
  | [d1, d2] => { results := [.lit (.bool true)], args := [d1, d2] }
  | _ => none }
def solveAnswersRow : OpenClaim := { program := "ytfofabbnbmieoaa", sum := "b4ec062776a7ac13500c38e6b0732e83ac2eba05a09a0dd7972f53044c868c22", func := "weephole/weepholelaw07.SolveAnswers", spec := "solveAnswers", unfollowed := true, recurses := true, apart := false }
def SolveAnswersSaid : Prop := solveAnswersRow.holds Try.pinned (OpenSpec.ofChange solveAnswersSpec)

/-- ITS FALSE NEIGHBOUR: 'it returns false'. Refute it at one input. -/
def solveAnswersWrong : ChangeSpec := { name := "solveAnswers", fn := fun _ => fun
  | [d1, d2] => { results := [.lit (.bool false)], args := [d1, d2] }
  | _ => none }
def SolveAnswersWrongFalsely : Prop := solveAnswersRow.holds Try.pinned (OpenSpec.ofChange solveAnswersWrong)

/-- 'weepholelaw07.SolveBudgets': WHATEVER THE INPUT: true; the input reads as it did. -/
def solveBudgetsSpec : ChangeSpec := { name := "solveBudgets", fn := fun _ => fun
  | [d1, d2, d3] => { results := [.lit (.bool true)], args := [d1, d2, d3] }
  | _ => none }
def solveBudgetsRow : OpenClaim := { program := "ytfofabbnbmieoaa", sum := "b4ec062776a7ac13500c38e6b0732e83ac2eba05a09a0dd7972f53044c868c22", func := "weephole/weepholelaw07.SolveBudgets", spec := "solveBudgets", unfollowed := true, recurses := true, apart := false }
def SolveBudgetsSaid : Prop := solveBudgetsRow.holds Try.pinned (OpenSpec.ofChange solveBudgetsSpec)

/-- ITS FALSE NEIGHBOUR: 'it returns false'. Refute it at one input. -/
def solveBudgetsWrong : ChangeSpec := { name := "solveBudgets", fn := fun _ => fun
  | [d1, d2, d3] => { results := [.lit (.bool false)], args := [d1, d2, d3] }
  | _ => none }
def SolveBudgetsWrongFalsely : Prop := solveBudgetsRow.holds Try.pinned (OpenSpec.ofChange solveBudgetsWrong)

/-- 'weepholelaw07.SolveOdd': WHATEVER THE INPUT: true; the input reads as it did. -/
def solveOddSpec : ChangeSpec := { name := "solveOdd", fn := fun _ => fun
  | [d1, d2] => { results := [.lit (.bool true)], args := [d1, d2] }
  | _ => none }
def solveOddRow : OpenClaim := { program := "ytfofabbnbmieoaa", sum := "b4ec062776a7ac13500c38e6b0732e83ac2eba05a09a0dd7972f53044c868c22", func := "weephole/weepholelaw07.SolveOdd", spec := "solveOdd", unfollowed := true, recurses := true, apart := false }
def SolveOddSaid : Prop := solveOddRow.holds Try.pinned (OpenSpec.ofChange solveOddSpec)

/-- ITS FALSE NEIGHBOUR: 'it returns false'. Refute it at one input. -/
def solveOddWrong : ChangeSpec := { name := "solveOdd", fn := fun _ => fun
  | [d1, d2] => { results := [.lit (.bool false)], args := [d1, d2] }
  | _ => none }
def SolveOddWrongFalsely : Prop := solveOddRow.holds Try.pinned (OpenSpec.ofChange solveOddWrong)

/-- 'weepholelaw07.SolveNames': WHATEVER THE INPUT: true; the input reads as it did. -/
def solveNamesSpec : ChangeSpec := { name := "solveNames", fn := fun _ => fun
  | [] => { results := [.lit (.bool true)], args := [] }
  | _ => none }
def solveNamesRow : OpenClaim := { program := "ytfofabbnbmieoaa", sum := "b4ec062776a7ac13500c38e6b0732e83ac2eba05a09a0dd7972f53044c868c22", func := "weephole/weepholelaw07.SolveNames", spec := "solveNames", unfollowed := true, recurses := true, apart := false }
def SolveNamesSaid : Prop := solveNamesRow.holds Try.pinned (OpenSpec.ofChange solveNamesSpec)

/-- ITS FALSE NEIGHBOUR: 'it returns false'. Refute it at one input. -/
def solveNamesWrong : ChangeSpec := { name := "solveNames", fn := fun _ => fun
  | [] => { results := [.lit (.bool false)], args := [] }
  | _ => none }
def SolveNamesWrongFalsely : Prop := solveNamesRow.holds Try.pinned (OpenSpec.ofChange solveNamesWrong)

/-- 'weepholelaw07.SolveTurned': WHATEVER THE INPUT: true; the input reads as it did. -/
def solveTurnedSpec : ChangeSpec := { name := "solveTurned", fn := fun _ => fun
  | [d1, d2, d3, d4] => { results := [.lit (.bool true)], args := [d1, d2, d3, d4] }
  | _ => none }
def solveTurnedRow : OpenClaim := { program := "ytfofabbnbmieoaa", sum := "b4ec062776a7ac13500c38e6b0732e83ac2eba05a09a0dd7972f53044c868c22", func := "weephole/weepholelaw07.SolveTurned", spec := "solveTurned", unfollowed := true, recurses := true, apart := false }
def SolveTurnedSaid : Prop := solveTurnedRow.holds Try.pinned (OpenSpec.ofChange solveTurnedSpec)

/-- ITS FALSE NEIGHBOUR: 'it returns false'. Refute it at one input. -/
def solveTurnedWrong : ChangeSpec := { name := "solveTurned", fn := fun _ => fun
  | [d1, d2, d3, d4] => { results := [.lit (.bool false)], args := [d1, d2, d3, d4] }
  | _ => none }
def SolveTurnedWrongFalsely : Prop := solveTurnedRow.holds Try.pinned (OpenSpec.ofChange solveTurnedWrong)

/-- 'weepholelaw07.SolveModels': WHATEVER THE INPUT: true; the input reads as it did. -/
def solveModelsSpec : ChangeSpec := { name := "solveModels", fn := fun _ => fun
  | [d1, d2] => { results := [.lit (.bool true)], args := [d1, d2] }
  | _ => none }
def solveModelsRow : OpenClaim := { program := "ytfofabbnbmieoaa", sum := "b4ec062776a7ac13500c38e6b0732e83ac2eba05a09a0dd7972f53044c868c22", func := "weephole/weepholelaw07.SolveModels", spec := "solveModels", unfollowed := true, recurses := true, apart := false }
def SolveModelsSaid : Prop := solveModelsRow.holds Try.pinned (OpenSpec.ofChange solveModelsSpec)

/-- ITS FALSE NEIGHBOUR: 'it returns false'. Refute it at one input. -/
def solveModelsWrong : ChangeSpec := { name := "solveModels", fn := fun _ => fun
  | [d1, d2] => { results := [.lit (.bool false)], args := [d1, d2] }
  | _ => none }
def SolveModelsWrongFalsely : Prop := solveModelsRow.holds Try.pinned (OpenSpec.ofChange solveModelsWrong)

/-- 'weepholelaw07.SolvePigeons': WHATEVER THE INPUT: true; the input reads as it did. -/
def solvePigeonsSpec : ChangeSpec := { name := "solvePigeons", fn := fun _ => fun
  | [d] => { results := [.lit (.bool true)], args := [d] }
  | _ => none }
def solvePigeonsRow : OpenClaim := { program := "ytfofabbnbmieoaa", sum := "b4ec062776a7ac13500c38e6b0732e83ac2eba05a09a0dd7972f53044c868c22", func := "weephole/weepholelaw07.SolvePigeons", spec := "solvePigeons", unfollowed := true, recurses := true, apart := false }
def SolvePigeonsSaid : Prop := solvePigeonsRow.holds Try.pinned (OpenSpec.ofChange solvePigeonsSpec)

/-- ITS FALSE NEIGHBOUR: 'it returns false'. Refute it at one input. -/
def solvePigeonsWrong : ChangeSpec := { name := "solvePigeons", fn := fun _ => fun
  | [d] => { results := [.lit (.bool false)], args := [d] }
  | _ => none }
def SolvePigeonsWrongFalsely : Prop := solvePigeonsRow.holds Try.pinned (OpenSpec.ofChange solvePigeonsWrong)

/- THE SECOND FORM. 'bulk': how many values and letters a reading holds, each counted each time it is reached (what is shared counts as often as it is met; a slice's spare places count too). A statement '..UptoSaid' is the law's where the arguments, and the package variables that the reading takes, are together of bulk at most 1048576: NARROWER than '..Said'. Prove '..Said' where nothing that the law and all that it calls make is longer than what came in: it says more and counts as full. Else prove '..UptoSaid'. A law counts once. -/
mutual
def uptoBulk {H : Type} : DataW H → Nat
  | .lit (.string bytes) => bytes.length + 1
  | .lit _ => 1
  | .nil => 1
  | .ptr d => uptoBulk d + 1
  | .slice elems spare => uptoBulkAll elems + uptoBulkAll spare + 1
  | .agg parts => uptoBulkAll parts + 1
  | .iface _ d => uptoBulk d + 1
  | .map entries => uptoBulkEntries entries + 1
  | .held _ => 1
def uptoBulkAll {H : Type} : List (DataW H) → Nat
  | [] => 0
  | d :: r => uptoBulk d + uptoBulkAll r
def uptoBulkEntries {H : Type} : List (Lit × DataW H) → Nat
  | [] => 0
  | x :: r => uptoBulkEntry x + uptoBulkEntries r
def uptoBulkEntry {H : Type} : Lit × DataW H → Nat
  | (.string bytes, d) => bytes.length + uptoBulk d + 1
  | (_, d) => uptoBulk d + 1
 end
def uptoSmall : (H : Type) → List (DataW H) → Bool := fun _ ds => decide (uptoBulkAll ds ≤ 1048576)
def OpenSpec.upto (s : _root_.Go.ChangeSpec) : _root_.Go.OpenSpec := { _root_.Go.OpenSpec.ofChange s with cond := some uptoSmall }

/-- 'weepholelaw01.LitNames', WHERE WHAT IT READS IS OF BULK AT MOST 1048576: true; the input reads as it did. -/
def litNamesUptoRow : OpenClaim := { program := "ytfofabbnbmieoaa", sum := "b4ec062776a7ac13500c38e6b0732e83ac2eba05a09a0dd7972f53044c868c22", func := "weephole/weepholelaw01.LitNames", spec := "litNames", unfollowed := true, recurses := true, apart := false, narrowed := true }
def LitNamesUptoSaid : Prop := litNamesUptoRow.holds Try.pinned (OpenSpec.upto litNamesSpec)

/-- 'weepholelaw02.CnfNames', WHERE WHAT IT READS IS OF BULK AT MOST 1048576: true; the input reads as it did. -/
def cnfNamesUptoRow : OpenClaim := { program := "ytfofabbnbmieoaa", sum := "b4ec062776a7ac13500c38e6b0732e83ac2eba05a09a0dd7972f53044c868c22", func := "weephole/weepholelaw02.CnfNames", spec := "cnfNames", unfollowed := true, recurses := true, apart := false, narrowed := true }
def CnfNamesUptoSaid : Prop := cnfNamesUptoRow.holds Try.pinned (OpenSpec.upto cnfNamesSpec)

/-- 'weepholelaw02.CnfCopies', WHERE WHAT IT READS IS OF BULK AT MOST 1048576: true; the input reads as it did. -/
def cnfCopiesUptoRow : OpenClaim := { program := "ytfofabbnbmieoaa", sum := "b4ec062776a7ac13500c38e6b0732e83ac2eba05a09a0dd7972f53044c868c22", func := "weephole/weepholelaw02.CnfCopies", spec := "cnfCopies", unfollowed := true, recurses := true, apart := false, narrowed := true }
def CnfCopiesUptoSaid : Prop := cnfCopiesUptoRow.holds Try.pinned (OpenSpec.upto cnfCopiesSpec)

/-- 'weepholelaw07.SolveImplied', WHERE WHAT IT READS IS OF BULK AT MOST 1048576: true; the input reads as it did. -/
def solveImpliedUptoRow : OpenClaim := { program := "ytfofabbnbmieoaa", sum := "b4ec062776a7ac13500c38e6b0732e83ac2eba05a09a0dd7972f53044c868c22", func := "weephole/weepholelaw07.SolveImplied", spec := "solveImplied", unfollowed := true, recurses := true, apart := false, narrowed := true }
def SolveImpliedUptoSaid : Prop := solveImpliedUptoRow.holds Try.pinned (OpenSpec.upto solveImpliedSpec)

/-- 'weepholelaw07.SolveAnswers', WHERE WHAT IT READS IS OF BULK AT MOST 1048576: true; the input reads as it did. -/
def solveAnswersUptoRow : OpenClaim := { program := "ytfofabbnbmieoaa", sum := "b4ec062776a7ac13500c38e6b0732e83ac2eba05a09a0dd7972f53044c868c22", func := "weephole/weepholelaw07.SolveAnswers", spec := "solveAnswers", unfollowed := true, recurses := true, apart := false, narrowed := true }
def SolveAnswersUptoSaid : Prop := solveAnswersUptoRow.holds Try.pinned (OpenSpec.upto solveAnswersSpec)

/-- 'weepholelaw07.SolveBudgets', WHERE WHAT IT READS IS OF BULK AT MOST 1048576: true; the input reads as it did. -/
def solveBudgetsUptoRow : OpenClaim := { program := "ytfofabbnbmieoaa", sum := "b4ec062776a7ac13500c38e6b0732e83ac2eba05a09a0dd7972f53044c868c22", func := "weephole/weepholelaw07.SolveBudgets", spec := "solveBudgets", unfollowed := true, recurses := true, apart := false, narrowed := true }
def SolveBudgetsUptoSaid : Prop := solveBudgetsUptoRow.holds Try.pinned (OpenSpec.upto solveBudgetsSpec)

/-- 'weepholelaw07.SolveOdd', WHERE WHAT IT READS IS OF BULK AT MOST 1048576: true; the input reads as it did. -/
def solveOddUptoRow : OpenClaim := { program := "ytfofabbnbmieoaa", sum := "b4ec062776a7ac13500c38e6b0732e83ac2eba05a09a0dd7972f53044c868c22", func := "weephole/weepholelaw07.SolveOdd", spec := "solveOdd", unfollowed := true, recurses := true, apart := false, narrowed := true }
def SolveOddUptoSaid : Prop := solveOddUptoRow.holds Try.pinned (OpenSpec.upto solveOddSpec)

/-- 'weepholelaw07.SolveNames', WHERE WHAT IT READS IS OF BULK AT MOST 1048576: true; the input reads as it did. -/
def solveNamesUptoRow : OpenClaim := { program := "ytfofabbnbmieoaa", sum := "b4ec062776a7ac13500c38e6b0732e83ac2eba05a09a0dd7972f53044c868c22", func := "weephole/weepholelaw07.SolveNames", spec := "solveNames", unfollowed := true, recurses := true, apart := false, narrowed := true }
def SolveNamesUptoSaid : Prop := solveNamesUptoRow.holds Try.pinned (OpenSpec.upto solveNamesSpec)

/-- 'weepholelaw07.SolveTurned', WHERE WHAT IT READS IS OF BULK AT MOST 1048576: true; the input reads as it did. -/
def solveTurnedUptoRow : OpenClaim := { program := "ytfofabbnbmieoaa", sum := "b4ec062776a7ac13500c38e6b0732e83ac2eba05a09a0dd7972f53044c868c22", func := "weephole/weepholelaw07.SolveTurned", spec := "solveTurned", unfollowed := true, recurses := true, apart := false, narrowed := true }
def SolveTurnedUptoSaid : Prop := solveTurnedUptoRow.holds Try.pinned (OpenSpec.upto solveTurnedSpec)

/-- 'weepholelaw07.SolveModels', WHERE WHAT IT READS IS OF BULK AT MOST 1048576: true; the input reads as it did. -/
def solveModelsUptoRow : OpenClaim := { program := "ytfofabbnbmieoaa", sum := "b4ec062776a7ac13500c38e6b0732e83ac2eba05a09a0dd7972f53044c868c22", func := "weephole/weepholelaw07.SolveModels", spec := "solveModels", unfollowed := true, recurses := true, apart := false, narrowed := true }
def SolveModelsUptoSaid : Prop := solveModelsUptoRow.holds Try.pinned (OpenSpec.upto solveModelsSpec)

/-- 'weepholelaw07.SolvePigeons', WHERE WHAT IT READS IS OF BULK AT MOST 1048576: true; the input reads as it did. -/
def solvePigeonsUptoRow : OpenClaim := { program := "ytfofabbnbmieoaa", sum := "b4ec062776a7ac13500c38e6b0732e83ac2eba05a09a0dd7972f53044c868c22", func := "weephole/weepholelaw07.SolvePigeons", spec := "solvePigeons", unfollowed := true, recurses := true, apart := false, narrowed := true }
def SolvePigeonsUptoSaid : Prop := solvePigeonsUptoRow.holds Try.pinned (OpenSpec.upto solvePigeonsSpec)

end Rows
end Go.Proofs.Ytfofabbnbmieoaa
