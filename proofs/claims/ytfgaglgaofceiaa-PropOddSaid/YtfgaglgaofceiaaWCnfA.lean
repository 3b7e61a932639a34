/- The walks of the laws CnfChecks and CnfFirsts. -/
import Derived.Test.YtfgaglgaofceiaaCnfC
import Derived.Test.YtfgaglgaofceiaaOpen
namespace Go.Proofs.Ytfgaglgaofceiaa
open Go.RowKit

theorem rows_of_arg {w : World} {v : Value} {f : List (List Int)} (h : ArgR .i64 w v f) :
    ∃ a c, v = .slice a f.length c ∧ f.length ≤ 9223372036854775807 ∧ Rws w a f ∧ FOk f := by
  obtain ⟨a, c, rfl, h1, h2, _, h4⟩ := h
  unfold maxLen at h2
  refine ⟨a, c, rfl, by omega, fun j xs hj => ?_, fun xs hxs => ?_⟩
  · obtain ⟨b, off, u, e1, e2, a', c', e3, e4, e5, e6, e7, _⟩ := h4 j xs hj
    exact ⟨b, off, u, e1, e2, a', c', e3, e4, e6, e7⟩
  · obtain ⟨j, hj, rfl⟩ := List.getElem_of_mem hxs
    obtain ⟨b, off, u, e1, e2, a', c', e3, e4, e5, e6, e7, e8⟩ := h4 j _ (List.getElem?_eq_getElem hj)
    unfold maxLen at e5
    exact ⟨fun x hx => i64_of_wf (e8 x hx), by omega⟩

theorem law02_SmallR (n : Int) (a : Option Addr) (f : List (List Int)) (m c : Nat) (r : Bool) (w : World) (hr0 : smallB f = r) (hm : m = f.length) (hf : FOk f) (hr : Rws w a f) (hl : f.length ≤ 9223372036854775807) :
    Calls Try.prog 25 #[.agg #[.int .i64 n, .slice a m c]] w fun e w' => e = .returned (.bool r) ∧ w.alloc (fbox n a m c) = w' := hr0 ▸ law02_Small n a f m c w hm hf hr hl

end Go.Proofs.Ytfgaglgaofceiaa
