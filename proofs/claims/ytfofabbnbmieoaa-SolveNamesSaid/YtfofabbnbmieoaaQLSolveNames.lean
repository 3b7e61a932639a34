/- The law weepholelaw07.SolveNames answers true at every input, and its arguments read afterwards as they read before; no condition. -/
import Derived.Test.YtfofabbnbmieoaaRows
import Derived.Test.YtfofabbnbmieoaaQ1
import Derived.Test.YtfofabbnbmieoaaQEntry
import Derived.Test.YtfofabbnbmieoaaQWSolN

namespace Go.Proofs.Ytfofabbnbmieoaa.lawSolveNames
open Go.ChangeShapes Go.WideShapes Go.ChangeAt Go.RowKit Go.Proofs.Ytfofabbnbmieoaa.Ord

theorem own : ownKnob Try.prog.godebug = none := by kernel_rfl
theorem laidOut : laidOutB Try.prog = true := by kernel_rfl

set_option maxRecDepth 100000 in
theorem lifted (os : Os) (started : os.Started) (H : Type) (enc : TypeId × Value → H) :
    ReturnsInHanded {} Try.checked os 10 .any (Rows.solveNamesSpec.pre6 enc Try.prog Try.f10 Rows.solveNamesRow.domain false) (Rows.solveNamesSpec.post enc Try.prog Try.f10 false true false false) := by
  refine returnsInHanded_of_change (C := Try.checked) own started (by kernel_rfl) Try.func10
    (ChangeSpec.witness6 (enc := enc) (C := Try.checked) false ⟨#[], #[], []⟩ 8 (by kernel_rfl) (by kernel_rfl) (by kernel_rfl) (by kernel_rfl)) ?_
  intro W base args ds gs before hval0 hW hcnd _
  have hval : ∀ (j : Nat) t v, Try.f10.params[j]? = some t → args[j]? = some v → Value.okWide Try.prog W .any base t v := hval0
  have hW' := hW
  obtain ⟨p, q, hA0, hV, rfl, hfz, hnd⟩ := hW
  have hA : DataW.TrodAll enc Try.prog W 0 (fun _ => true) true Try.f10.params.toList args.toList ds p := hA0
  rw [Try.params10] at hA hval
  obtain ⟨rfl, rfl, rfl⟩ := trodAll_none hA
  obtain ⟨rfl, rfl⟩ := trodVars_none hV
  clear hA0 hval0
  refine (walk_SolveNames  W ).mono fun e W' ⟨he, bel⟩ => ?_
  subst he
  exact ⟨_, rfl, _, _, _, [], _, [], hW', trodAll_mk1 (shut_bool Try.underlying4 _), trodAll_mk0, rfl, bel.frame _, fun h => by cases h⟩

/-- The row's words about the program. -/
theorem closed : joinedFacts Try.prog 10 Try.f10 Rows.solveNamesSpec Rows.solveNamesRow = true := by
  have e1 : Try.prog.mayEnter = true := entry1
  have e2 : (Rows.solveNamesRow.lifted == Try.prog.liftsFinal) = true := entry2
  have e3 : (Try.prog.make == some Rows.solveNamesRow.make) = true := entry3
  unfold joinedFacts
  rw [e1, e2, e3]
  change _ = true
  kernel_rfl

/-- The statement. -/
theorem proved : Rows.SolveNamesSaid :=
  OpenClaim.holds_of_wide 10 Try.f10 rfl rfl rfl rfl rfl rfl rfl ⟨rfl, rfl, rfl, rfl, rfl⟩ rfl rfl rfl rfl rfl (by kernel_rfl) Try.func10 closed
    (of_decide_eq_true (by kernel_rfl)) (by unfold Func.isWrapper; rw [if_neg (of_decide_eq_false (by kernel_rfl))]; exact ⟨rfl, rfl⟩)
    (fun os started H enc _ => lifted os started H enc)

end Go.Proofs.Ytfofabbnbmieoaa.lawSolveNames
