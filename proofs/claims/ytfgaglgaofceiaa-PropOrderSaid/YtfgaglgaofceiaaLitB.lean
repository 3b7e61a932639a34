/- The contracts of package lit and the kit once more, for closed calls: the world behind is told by Below alone. -/
import Derived.Test.YtfgaglgaofceiaaNormR
import Derived.Test.YtfgaglgaofceiaaKnown01
namespace Go.Proofs.Ytfgaglgaofceiaa
open Go.RowKit

theorem lit_CheckB (n : Int) (a : Option Addr) (xs : List Int) (m cap : Nat) (r : Int) (w : World) (hr : litCheck n xs = r) (hm : m = xs.length) (hx : ∀ x ∈ xs, I64 x) (hs : SlV w a (ints xs)) (hl : xs.length ≤ 9223372036854775807) :
    Calls Try.prog 15 #[.int .i64 n, .slice a m cap] w fun e w' => e = .returned (.int .i64 r) ∧ Below w.heap.size w w' :=
  (lit_CheckR n a xs m cap r w hr hm hx hs hl).mono fun _ _ ⟨he, hw⟩ => ⟨he, hw ▸ Below.refl _ _⟩

theorem lit_HoldsB (am : Option Addr) (m : List Bool) (lm capm : Nat) (a : Option Addr) (xs : List Int) (lx cap : Nat) (r : Bool) (w : World) (hr : holdsB m xs = r) (hlm : lm = m.length) (hlx : lx = xs.length) (hm : SlV w am (bools m)) (hx : ∀ x ∈ xs, I64 x)
    (hs : SlV w a (ints xs)) (hl : xs.length ≤ 9223372036854775807) (hl2 : m.length ≤ 9223372036854775807) :
    Calls Try.prog 16 #[.slice am lm capm, .slice a lx cap] w fun e w' => e = .returned (.bool r) ∧ Below w.heap.size w w' :=
  (lit_HoldsR am m lm capm a xs lx cap r w hr hlm hlx hm hx hs hl hl2).mono fun _ _ ⟨he, hw⟩ => ⟨he, hw ▸ Below.refl _ _⟩

theorem lit_LessB (a b : Int) (r : Bool) (w : World) (hr : lessB a b = r) (ha : I64 a) (hb : I64 b) :
    Calls Try.prog 18 #[.int .i64 a, .int .i64 b] w fun e w' => e = .returned (.bool r) ∧ Below w.heap.size w w' :=
  (lit_Less' a b r w hr ha hb).mono fun _ _ ⟨he, hw⟩ => ⟨he, hw ▸ Below.refl _ _⟩

theorem kit_EqualIntsB (a b : Option Addr) (xs ys : List Int) (la ca lb cb : Nat) (r : Bool) (w : World) (hr : eqI xs ys = r) (hla : la = xs.length) (hlb : lb = ys.length) (hs : SlV w a (ints xs)) (ht : SlV w b (ints ys)) (hl : xs.length ≤ 9223372036854775807) :
    Calls Try.prog 17 #[.slice a la ca, .slice b lb cb] w fun e w' => e = .returned (.bool r) ∧ Below w.heap.size w w' :=
  (kit_EqualIntsR a b xs ys la ca lb cb r w hr hla hlb hs ht hl).mono fun _ _ ⟨he, n, hw⟩ => ⟨he, hw ▸ below_dr (Below.refl _ _) n⟩

theorem lit_NormB (a : Option Addr) (xs ys : List Int) (r : Bool) (m cap : Nat) (w : World) (hr : adjB (normL xs) = r) (hy : normV xs = ys) (hm : m = xs.length) (hcap : m ≤ cap) (hc0 : a = none → cap = 0) (hs : SlV w a (ints xs)) (hx : ∀ x ∈ xs, I64 x) (hl : xs.length ≤ 4294967296) :
    Calls Try.prog 14 #[.slice a m cap] w fun e w' =>
      ∃ a' c', e = .returned (.tuple #[.slice a' ys.length c', .bool r]) ∧ SlV w' a' (ints ys) ∧ Below w.heap.size w w' :=
  (lit_NormR a xs ys r m cap w hr hy hm hcap hc0 hs hx hl).mono fun _ _ ⟨a', c', he, ho, hb⟩ => ⟨a', c', he, OwnT.slv ho, hb⟩

theorem slice_headB {P : Program} {t e : TypeId} {a : Option Addr} {n c : Nat} {k : Int} (ht : P.underlying t = some (.slice e)) (hsz : ∀ wx, (sizeOf e).run P wx = .ok 1 wx) (h0 : 0 ≤ k) (h1 : k ≤ c) :
    ∀ wx, (Instr.slice t (.slice a n c) none (some (.int .i64 k)) none).run P wx = .ok (.slice a k.toNat c) wx := by
  intro wx
  have he : P.elem t = e := by simp [Program.elem, ht]
  rw [run_slice_h (P := P) wx t a n c (by rw [he]; exact ht) .i64 k h0 h1, he, hsz]
  cases a <;> simp [sliced, Result.andThen, Addr.add]

theorem box_belowB (w : World) (o : Obj) : Below w.heap.size w (w.alloc o) := below_al (Below.refl _ _) (Nat.le_refl _) _

theorem blk2a (w : World) (o o2 : Obj) : ((w.alloc o).alloc o2).heap[w.heap.size]? = some o := by
  rw [heap_al, heap_al, Array.getElem?_push, if_neg (by simp), Array.getElem?_push, if_pos rfl]

theorem blk2b (w : World) (o o2 : Obj) : ((w.alloc o).alloc o2).heap[w.heap.size + 1]? = some o2 := by
  rw [heap_al, Array.getElem?_push, if_pos (by simp)]

/-- A new block, then a call. -/
theorem below_new {B : Nat} {w w1 w2 : World} {o : Obj} (h : Below B w w1) (hB : B ≤ w1.heap.size) (h2 : Below (w1.heap.size + 1) (w1.alloc o) w2) : Below B w w2 :=
  (below_al h hB o).trans (h2.mono (by omega))

theorem below_new2 {B : Nat} {w w1 w2 : World} {o o2 : Obj} (h : Below B w w1) (hB : B ≤ w1.heap.size) (h2 : Below (w1.heap.size + 1 + 1) ((w1.alloc o).alloc o2) w2) : Below B w w2 :=
  (below_al (below_al h hB o) (by simp only [size_al]; omega) o2).trans (h2.mono (by omega))

end Go.Proofs.Ytfgaglgaofceiaa
