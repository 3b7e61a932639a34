/- The contracts of package lit, the reference and the kit once more, with the result under a name of its own. -/
import Derived.Test.YtfgaglgaofceiaaNorm
import Derived.Test.YtfgaglgaofceiaaRef01
import Derived.Test.YtfgaglgaofceiaaPKnown
import Derived.Test.YtfgaglgaofceiaaPLess
import Derived.Test.YtfgaglgaofceiaaOpen
namespace Go.Proofs.Ytfgaglgaofceiaa
open Go.RowKit

theorem i64_of_wf {x : Int} (h : (Lit.int .i64 x).wf = true) : I64 x := bounds_i64 h

theorem lit_CheckR (n : Int) (a : Option Addr) (xs : List Int) (m cap : Nat) (r : Int) (w : World) (hr : litCheck n xs = r) (hm : m = xs.length) (hx : ∀ x ∈ xs, I64 x) (hs : SlV w a (ints xs)) (hl : xs.length ≤ 9223372036854775807) :
    Calls Try.prog 15 #[.int .i64 n, .slice a m cap] w fun e w' => e = .returned (.int .i64 r) ∧ w = w' := by
  subst hm; subst hr; exact lit_Check n a xs cap w hx hs hl

theorem lit_HoldsR (am : Option Addr) (m : List Bool) (lm capm : Nat) (a : Option Addr) (xs : List Int) (lx cap : Nat) (r : Bool) (w : World) (hr : holdsB m xs = r) (hlm : lm = m.length) (hlx : lx = xs.length) (hm : SlV w am (bools m)) (hx : ∀ x ∈ xs, I64 x)
    (hs : SlV w a (ints xs)) (hl : xs.length ≤ 9223372036854775807) (hl2 : m.length ≤ 9223372036854775807) :
    Calls Try.prog 16 #[.slice am lm capm, .slice a lx cap] w fun e w' => e = .returned (.bool r) ∧ w = w' := by
  subst hlm; subst hlx; subst hr; exact lit_Holds am m capm a xs cap w hm hx hs hl hl2

theorem ref01_CheckR (n : Int) (a : Option Addr) (xs : List Int) (m cap : Nat) (r : Int) (w : World) (hr : litCheck n xs = r) (hm : m = xs.length) (hx : ∀ x ∈ xs, I64 x) (hs : SlV w a (ints xs)) (hl : xs.length ≤ 9223372036854775807) :
    Calls Try.prog 56 #[.int .i64 n, .slice a m cap] w fun e w' => e = .returned (.int .i64 r) ∧ w = w' := by
  subst hm; subst hr; exact ref01_Check n a xs cap w hx hs hl

theorem kit_EqualIntsR (a b : Option Addr) (xs ys : List Int) (la ca lb cb : Nat) (r : Bool) (w : World) (hr : eqI xs ys = r) (hla : la = xs.length) (hlb : lb = ys.length) (hs : SlV w a (ints xs)) (ht : SlV w b (ints ys)) (hl : xs.length ≤ 9223372036854775807) :
    Calls Try.prog 17 #[.slice a la ca, .slice b lb cb] w fun e w' => e = .returned (.bool r) ∧ ∃ n, w' = w.drewN n := by
  subst hla; subst hlb; subst hr; exact kit_EqualInts a b xs ys ca cb w hs ht hl

/-- lit.Norm, where no literal stands beside its negative. -/
theorem lit_NormF (a : Option Addr) (xs ys : List Int) (m cap : Nat) (w : World) (hn : adjB (normL xs) = false) (hy : normL xs = ys) (hm : m = xs.length) (hcap : m ≤ cap) (hc0 : a = none → cap = 0) (hs : SlV w a (ints xs)) (hx : ∀ x ∈ xs, I64 x) (hl : xs.length ≤ 4294967296) :
    Calls Try.prog 14 #[.slice a m cap] w fun e w' =>
      ∃ a' c', e = .returned (.tuple #[.slice a' ys.length c', .bool false]) ∧ OwnT 3 w' w.heap.size (.slice a' ys.length c') ys ∧ Below w.heap.size w w' := by
  refine (lit_Norm a xs m cap w hm hcap hc0 hs hx hl).mono ?_
  rintro e w' ⟨v, rfl, ho, hb⟩
  rw [normV_false hn, hy] at ho
  obtain ⟨a', c', rfl, ho'⟩ := ownT_shape ho
  exact ⟨a', c', by rw [hn], ho', hb⟩

/-- lit.Norm, where a literal stands beside its negative. -/
theorem lit_NormT (a : Option Addr) (xs : List Int) (m cap : Nat) (w : World) (hn : adjB (normL xs) = true) (hm : m = xs.length) (hcap : m ≤ cap) (hc0 : a = none → cap = 0) (hs : SlV w a (ints xs)) (hx : ∀ x ∈ xs, I64 x) (hl : xs.length ≤ 4294967296) :
    Calls Try.prog 14 #[.slice a m cap] w fun e w' =>
      ∃ a' c', e = .returned (.tuple #[.slice a' 0 c', .bool true]) ∧ Below w.heap.size w w' := by
  refine (lit_Norm a xs m cap w hm hcap hc0 hs hx hl).mono ?_
  rintro e w' ⟨v, rfl, ho, hb⟩
  rw [normV_true hn] at ho
  obtain ⟨a', c', rfl, ho'⟩ := ownT_shape ho
  exact ⟨a', c', by rw [hn]; rfl, hb⟩

theorem slv_at {w : World} {b : Nat} {vs : List Value} {e : TypeId} {m : Nat × Nat} (h : w.heap[b]? = some (.cells vs.toArray e m)) : SlV w (some ⟨b, 0, none⟩) vs := by
  intro j v hj
  refine ⟨b, 0, rfl, ?_⟩
  rw [cell_of_row _ _ _ _ _ _ h]
  simpa using hj

theorem below_al {B : Nat} {a w : World} (h : Below B a w) (hB : B ≤ w.heap.size) (o : Obj) : Below B a (w.alloc o) := h.alloc hB o

theorem heap_al (w : World) (o : Obj) : (w.alloc o).heap = w.heap.push o := rfl
theorem heap_dr (w : World) (n : Nat) : (w.drewN n).heap = w.heap := rfl

theorem size_al (w : World) (o : Obj) : (w.alloc o).heap.size = w.heap.size + 1 := by simp

end Go.Proofs.Ytfgaglgaofceiaa
