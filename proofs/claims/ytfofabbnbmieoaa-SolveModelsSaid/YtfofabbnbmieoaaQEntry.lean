/- What the program's initialization shows, reckoned once: it is the same for every law of the seat, and it is too much memory beside other facts. -/
import Derived.Test.YtfofabbnbmieoaaRows
import Derived.JoinedOf

namespace Go.Proofs.Ytfofabbnbmieoaa

theorem entry : (Try.prog.mayEnter && (false == Try.prog.liftsFinal) && (Try.prog.make == some Go.Make.cut)) = true := by kernel_rfl
theorem entry1 : Try.prog.mayEnter = true := by
  have h := entry
  simp only [Bool.and_eq_true] at h
  exact h.1.1
theorem entry2 : (false == Try.prog.liftsFinal) = true := by
  have h := entry
  simp only [Bool.and_eq_true] at h
  exact h.1.2
theorem entry3 : (Try.prog.make == some Go.Make.cut) = true := by
  have h := entry
  simp only [Bool.and_eq_true] at h
  exact h.2

end Go.Proofs.Ytfofabbnbmieoaa
