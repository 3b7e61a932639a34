/- The reference's Norm: insertion into an ascending list; it gives the same literals as lit.Norm. -/
import Derived.Deep.CutBlock
import Derived.Test.YtfofabbnbmieoaaQ3
import Derived.Test.YtfofabbnbmieoaaQ2

namespace Go.Proofs.Ytfofabbnbmieoaa
open Go.RowKit

end Go.Proofs.Ytfofabbnbmieoaa

/- The contract of the reference's Norm. -/
namespace Go.Proofs.Ytfofabbnbmieoaa
open Go.RowKit

theorem ints_get {xs : List Int} {k : Nat} {x : Int} (h : xs[k]? = some x) : (ints xs)[k]? = some (.int .i64 x) := by simp [ints, h]

theorem ints_set (xs : List Int) (k : Nat) (x : Int) : (ints xs).set k (.int .i64 x) = ints (xs.set k x) := by simp [ints, List.map_set]

end Go.Proofs.Ytfofabbnbmieoaa

/- The contracts of lit.Norm and the reference's Norm once more, with their results under names; weepholelaw01.has. -/
namespace Go.Proofs.Ytfofabbnbmieoaa
open Go.RowKit

theorem lit_NormR (a : Option Addr) (xs ys : List Int) (r : Bool) (m cap : Nat) (w : World) (hr : adjB (normL xs) = r) (hy : normV xs = ys) (hm : m = xs.length) (hcap : m ≤ cap) (hc0 : a = none → cap = 0) (hs : SlV w a (ints xs)) (hx : ∀ x ∈ xs, I64 x) (hl : xs.length ≤ 4294967296) :
    Calls Try.prog 14 #[.slice a m cap] w fun e w' =>
      ∃ a' c', e = .returned (.tuple #[.slice a' ys.length c', .bool r]) ∧ OwnT 3 w' w.heap.size (.slice a' ys.length c') ys ∧ Below w.heap.size w w' := by
  refine (lit_Norm a xs m cap w hm hcap hc0 hs hx hl).mono ?_
  rintro e w' ⟨v, rfl, ho, hb⟩
  rw [hy] at ho
  obtain ⟨a', c', rfl, ho'⟩ := ownT_shape ho
  exact ⟨a', c', by rw [hr], ho', hb⟩

end Go.Proofs.Ytfofabbnbmieoaa

/- The contract of weepholelaw01.known. -/
namespace Go.Proofs.Ytfofabbnbmieoaa
open Go.RowKit

end Go.Proofs.Ytfofabbnbmieoaa

/- The contracts of package lit and the kit once more, for closed calls: the world behind is told by Below alone. -/
namespace Go.Proofs.Ytfofabbnbmieoaa
open Go.RowKit

end Go.Proofs.Ytfofabbnbmieoaa
