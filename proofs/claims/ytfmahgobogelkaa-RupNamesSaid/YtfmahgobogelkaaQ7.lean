/- The reference's Norm: insertion into an ascending list; it gives the same literals as lit.Norm. -/
import Derived.Deep.CutBlock
import Derived.Test.YtfmahgobogelkaaQ4
import Derived.Test.YtfmahgobogelkaaQ2

namespace Go.Proofs.Ytfmahgobogelkaa
open Go.RowKit

/-- How many elements at the head come before x. -/
def posN : List Int → Int → Nat
  | [], _ => 0
  | a :: l, x => if lessB a x then posN l x + 1 else 0

/-- One literal is put in. -/
def insN (l : List Int) (x : Int) : List Int :=
  if x = 0 then l else if l[posN l x]? = some x then l else l.take (posN l x) ++ x :: l.drop (posN l x)

/-- The reference's literals. -/
def refL (c : List Int) : List Int := c.foldl insN []

theorem posN_le : ∀ (l : List Int) (x : Int), posN l x ≤ l.length
  | [], _ => Nat.le_refl _
  | a :: l, x => by
    have := posN_le l x
    unfold posN
    split
    · simp; omega
    · simp

/-- The elements before the place come before x. -/
theorem posN_before : ∀ (l : List Int) (x : Int) (i : Nat) (y : Int), i < posN l x → l[i]? = some y → lessB y x = true
  | [], _, i, y, h, _ => by simp [posN] at h
  | a :: l, x, i, y, h, hy => by
    unfold posN at h
    split at h
    · rename_i hl
      cases i with
      | zero => simp at hy; subst hy; exact hl
      | succ i => exact posN_before l x i y (by omega) (by simpa using hy)
    · omega

theorem posN_at : ∀ (l : List Int) (x y : Int), l[posN l x]? = some y → lessB y x = false
  | [], _, _, h => by simp [posN] at h
  | a :: l, x, y, h => by
    unfold posN at h
    split at h
    · exact posN_at l x y (by simpa using h)
    · rename_i hl; simp at h; subst h; simpa using hl

/-- The place, by what the search has seen. -/
theorem posN_eq {l : List Int} {x : Int} {k : Nat} (hk : k ≤ l.length) (hb : ∀ i y, i < k → l[i]? = some y → lessB y x = true) (ha : ∀ y, l[k]? = some y → lessB y x = false) : posN l x = k := by
  rcases Nat.lt_trichotomy (posN l x) k with h | h | h
  · have h1 : l[posN l x]? = some l[posN l x] := by simp
    have h2 := hb _ _ h h1
    rw [posN_at l x _ h1] at h2; cases h2
  · exact h
  · have hl := posN_le l x
    have h1 : l[k]? = some l[k] := by simp
    have h2 := posN_before l x k _ h h1
    rw [ha _ h1] at h2; cases h2

theorem insN_mem {l : List Int} {x y : Int} : y ∈ insN l x ↔ y ∈ l ∨ (y = x ∧ x ≠ 0) := by
  unfold insN
  split
  · rename_i h; simp [h]
  · rename_i h
    split
    · rename_i h2
      have : x ∈ l := List.mem_of_getElem? h2
      constructor
      · exact Or.inl
      · rintro (h3 | ⟨rfl, _⟩)
        · exact h3
        · exact this
    · have e : y ∈ l ↔ y ∈ l.take (posN l x) ∨ y ∈ l.drop (posN l x) := by rw [← List.mem_append, List.take_append_drop]
      rw [List.mem_append, List.mem_cons, e]
      constructor
      · rintro (h1 | rfl | h1)
        · exact Or.inl (Or.inl h1)
        · exact Or.inr ⟨rfl, h⟩
        · exact Or.inl (Or.inr h1)
      · rintro ((h1 | h1) | ⟨rfl, _⟩)
        · exact Or.inl h1
        · exact Or.inr (Or.inr h1)
        · exact Or.inr (Or.inl rfl)

theorem insN_asc {l : List Int} {x : Int} (h : Asc l) : Asc (insN l x) := by
  unfold insN
  split
  · exact h
  · split
    · exact h
    · rename_i h0 h2
      have hp := List.pairwise_append.1 (show Asc (l.take (posN l x) ++ l.drop (posN l x)) by rw [List.take_append_drop]; exact h)
      refine List.pairwise_append.2 ⟨hp.1, List.pairwise_cons.2 ⟨fun y hy => ?_, hp.2.1⟩, fun a ha b hb => ?_⟩
      · obtain ⟨j, hj, rfl⟩ := List.getElem_of_mem hy
        simp only [List.length_drop] at hj
        rw [List.getElem_drop]
        have hpl : posN l x < l.length := by omega
        have h3 : l[posN l x]? = some l[posN l x] := by simp [hpl]
        have h4 := posN_at l x _ h3
        have hne : x ≠ l[posN l x] := fun e => h2 (by rw [h3, ← e])
        have h5 : lessB x l[posN l x] = true := by
          cases hq : lessB x l[posN l x] with
          | true => rfl
          | false => exact (hne (lessB_tri hq h4)).elim
        cases j with
        | zero => exact h5
        | succ j => exact lessB_trans h5 (asc_get h (i := posN l x) (j := posN l x + (j + 1)) (by omega) h3 (by simp))
      · rcases List.mem_cons.1 hb with rfl | hb
        · obtain ⟨j, hj, rfl⟩ := List.getElem_of_mem ha
          simp only [List.length_take] at hj
          rw [List.getElem_take]
          exact posN_before l b j _ (by omega) (by simp)
        · exact hp.2.2 a ha b hb

theorem foldl_insN : ∀ (c l : List Int), Asc l → Asc (c.foldl insN l) ∧ ∀ y, y ∈ c.foldl insN l ↔ y ∈ l ∨ (y ∈ c ∧ y ≠ 0)
  | [], l, h => ⟨h, fun y => by simp⟩
  | x :: c, l, h => by
    obtain ⟨h1, h2⟩ := foldl_insN c (insN l x) (insN_asc h)
    refine ⟨h1, fun y => ?_⟩
    rw [List.foldl_cons, h2, insN_mem, List.mem_cons]
    constructor
    · rintro ((a | ⟨rfl, b⟩) | ⟨a, b⟩)
      · exact Or.inl a
      · exact Or.inr ⟨Or.inl rfl, b⟩
      · exact Or.inr ⟨Or.inr a, b⟩
    · rintro (a | ⟨rfl | a, b⟩)
      · exact Or.inl (Or.inl a)
      · exact Or.inl (Or.inr ⟨rfl, b⟩)
      · exact Or.inr ⟨a, b⟩

theorem refL_eq (c : List Int) : refL c = normL c := by
  obtain ⟨h1, h2⟩ := foldl_insN c [] List.Pairwise.nil
  refine asc_ext h1 (asc_normL c) fun y => ?_
  rw [refL] at *
  rw [h2, mem_normL_iff]; simp

theorem refL_step {c : List Int} {k : Nat} {x : Int} (hx : c[k]? = some x) : refL (c.take (k + 1)) = insN (refL (c.take k)) x := by
  simp [refL, List.take_add_one, hx]

theorem insN_length (l : List Int) (x : Int) : (insN l x).length ≤ l.length + 1 := by
  have := posN_le l x
  unfold insN
  split
  · omega
  · split
    · omega
    · simp; omega

theorem foldl_insN_length : ∀ (c l : List Int), (c.foldl insN l).length ≤ l.length + c.length
  | [], l => by simp
  | x :: c, l => by
    have h1 := foldl_insN_length c (insN l x)
    have h2 := insN_length l x
    simp only [List.foldl_cons, List.length_cons]; omega

theorem refL_length (c : List Int) : (refL c).length ≤ c.length := by
  have := foldl_insN_length c []
  simpa [refL] using this

theorem foldl_insN_from : ∀ (c l : List Int) (x : Int), x ∈ c.foldl insN l → x ∈ l ∨ x ∈ c
  | [], l, x, h => Or.inl h
  | y :: c, l, x, h => by
    rcases foldl_insN_from c _ x h with h | h
    · rcases insN_mem.1 h with h | ⟨h, _⟩
      · exact Or.inl h
      · exact Or.inr (by simp [h])
    · exact Or.inr (List.mem_cons_of_mem _ h)

theorem mem_refL {c : List Int} {x : Int} (h : x ∈ refL c) : x ∈ c := by
  rcases foldl_insN_from c [] x h with h | h
  · simp at h
  · exact h

theorem insN_zero {l : List Int} {x : Int} (h : x = 0) : insN l x = l := by simp [insN, h]
theorem insN_there {l : List Int} {x : Int} {k : Nat} (h0 : x ≠ 0) (hk : posN l x = k) (h : l[k]? = some x) : insN l x = l := by
  subst hk; simp [insN, h0, h]
theorem insN_new {l : List Int} {x : Int} {k : Nat} (h0 : x ≠ 0) (hk : posN l x = k) (h : l[k]? ≠ some x) : insN l x = l.take k ++ x :: l.drop k := by
  subst hk; simp [insN, h0, h]

/-- What lies in the list while the elements behind the place `at` are shifted up, the free place being k. -/
def shiftN (l : List Int) (k : Nat) (x : Int) : List Int := l.take k ++ x :: l.drop k

theorem shiftN_step {l : List Int} {k : Nat} {x y : Int} (hy : l[k]? = some y) : (shiftN l (k + 1) x).set (k + 1) y = shiftN l k y := by
  obtain ⟨hk, rfl⟩ := List.getElem?_eq_some_iff.1 hy
  unfold shiftN
  rw [List.set_append_right _ _ (by simp; omega)]
  have : k + 1 - (l.take (k + 1)).length = 0 := by simp; omega
  rw [this, List.set_cons_zero]
  have e1 : l.take (k + 1) = l.take k ++ [l[k]] := by rw [List.take_add_one, hy]; rfl
  have e2 : l.drop k = l[k] :: l.drop (k + 1) := List.drop_eq_getElem_cons hk
  rw [e2, e1, List.append_assoc]
  rfl

theorem shiftN_end {l : List Int} {k : Nat} {z y : Int} (hk : k ≤ l.length) : (shiftN l k z).set k y = shiftN l k y := by
  unfold shiftN
  rw [List.set_append_right _ _ (by simp; omega)]
  have : k - (l.take k).length = 0 := by simp; omega
  rw [this, List.set_cons_zero]

theorem shiftN_start (l : List Int) (x : Int) : shiftN l l.length x = l ++ [x] := by simp [shiftN]

theorem shiftN_get {l : List Int} {k : Nat} {x : Int} (hk : k < l.length) : (shiftN l (k + 1) x)[k]? = l[k]? := by
  unfold shiftN
  rw [List.getElem?_append_left (by simp; omega), List.getElem?_take, if_pos (by omega)]

theorem shiftN_length {l : List Int} {k : Nat} {x : Int} (hk : k ≤ l.length) : (shiftN l k x).length = l.length + 1 := by
  unfold shiftN; simp; omega

end Go.Proofs.Ytfmahgobogelkaa

/- The contract of the reference's Norm. -/
namespace Go.Proofs.Ytfmahgobogelkaa
open Go.RowKit

/-- The form of a row of the call's own that is not empty. -/
theorem own_form {w : World} {B e n : Nat} {v : Value} {xs : List Value} (h : w.ownsRow B e 1 v n xs) (hn : 0 < n) : ∃ g c, v = .slice (some ⟨g, 0, none⟩) n c := by
  rcases h.2 with ⟨_, h0⟩ | ⟨g, cap, cur, h1, _⟩
  · omega
  · exact ⟨g, cap, h1⟩

theorem ints_get {xs : List Int} {k : Nat} {x : Int} (h : xs[k]? = some x) : (ints xs)[k]? = some (.int .i64 x) := by simp [ints, h]

theorem ints_set (xs : List Int) (k : Nat) (x : Int) : (ints xs).set k (.int .i64 x) = ints (xs.set k x) := by simp [ints, List.map_set]

theorem hsto_len {w : World} {B g c j s : Nat} {l : List Int} {z x : Int} (h : (w.setCell ⟨g, s, none⟩ (.int .i64 x)).ownsRow B 3 1 (.slice (some ⟨g, 0, none⟩) (l.length + 1) c) (l.length + 1) ((ints (shiftN l s z)).set s (.int .i64 x))) (hs : s ≤ l.length) (hj : s = j) :
    (w.setCell ⟨g, s, none⟩ (.int .i64 x)).ownsRow B 3 1 (.slice (some ⟨g, 0, none⟩) (l.length + 1) c) (l.take j ++ x :: l.drop j).length (ints (l.take j ++ x :: l.drop j)) := by
  subst hj
  rw [ints_set, shiftN_end (z := z) hs] at h
  have e := shiftN_length (x := x) hs
  unfold shiftN at e h
  rw [e]; exact h

end Go.Proofs.Ytfmahgobogelkaa

/- The contracts of lit.Norm and the reference's Norm once more, with their results under names; weepholelaw01.has. -/
namespace Go.Proofs.Ytfmahgobogelkaa
open Go.RowKit

theorem lit_NormR (a : Option Addr) (xs ys : List Int) (r : Bool) (m cap : Nat) (w : World) (hr : adjB (normL xs) = r) (hy : normV xs = ys) (hm : m = xs.length) (hcap : m ≤ cap) (hc0 : a = none → cap = 0) (hs : SlV w a (ints xs)) (hx : ∀ x ∈ xs, I64 x) (hl : xs.length ≤ 4294967296) :
    Calls Try.prog 23 #[.slice a m cap] w fun e w' =>
      ∃ a' c', e = .returned (.tuple #[.slice a' ys.length c', .bool r]) ∧ OwnT 3 w' w.heap.size (.slice a' ys.length c') ys ∧ Below w.heap.size w w' := by
  refine (lit_Norm a xs m cap w hm hcap hc0 hs hx hl).mono ?_
  rintro e w' ⟨v, rfl, ho, hb⟩
  rw [hy] at ho
  obtain ⟨a', c', rfl, ho'⟩ := ownT_shape ho
  exact ⟨a', c', by rw [hr], ho', hb⟩

theorem normV_length (xs : List Int) : (normV xs).length ≤ xs.length := by
  unfold normV
  split
  · simp
  · exact normL_length xs

theorem mem_normV {x : Int} {xs : List Int} (h : x ∈ normV xs) : x ∈ xs := by
  unfold normV at h
  split at h
  · simp at h
  · exact mem_normL h

theorem eqI_self (xs : List Int) : eqI xs xs = true := by simp [eqI]

end Go.Proofs.Ytfmahgobogelkaa

/- The contract of weepholelaw01.known. -/
namespace Go.Proofs.Ytfmahgobogelkaa
open Go.RowKit

set_option maxHeartbeats 1000000 in
theorem law01_known (w : World) :
    Calls Try.prog 28 #[] w fun e w' => e = .returned (.bool true) ∧ Below w.heap.size w w' := by
  go_enter Try.func28, Try.ntmps28
  go_wp2_with fail
  refine (lit_NormF _ [3, -1, 3, 2] [-1, 2, 3] _ _ _ adj_3132 norm_3132 rfl (by decide) (by nofun) (slv_new _ _ _ _) (by simp [I64]) (by decide)).mono ?_
  rintro e w1 ⟨a1, c1, rfl, ho1, hb1⟩
  have hs1 := OwnT.slv ho1
  have hB1 : Below w.heap.size w w1 := (below_al (Below.refl _ _) (Nat.le_refl _) _).trans (hb1.mono (by simp))
  clear ho1 hb1
  go_wp2_with fail
  refine (kit_EqualIntsR _ _ [-1, 2, 3] [-1, 2, 3] _ _ _ _ true _ (by decide) rfl rfl (hs1.below (below_al (Below.refl _ _) (Nat.le_refl _) _)) (slv_new _ _ _ _) (by decide)).mono ?_
  rintro e w2 ⟨rfl, n2, rfl⟩
  go_wp2_with fail
  refine (lit_HoldsR _ [false, true] _ _ _ [-1] _ _ true _ (by decide) rfl rfl (slv_at (e := 4) (m := (0, 0)) (by simp [heap_al, Array.getElem_push, bools])) (by simp [I64]) (slv_at (e := 3) (m := (0, 0)) (by simp [heap_al, Array.getElem_push, ints])) (by decide) (by decide)).mono ?_
  rintro e w3 ⟨rfl, rfl⟩
  go_wp2_with fail
  refine (lit_CheckR 3 _ [1, -3] _ _ 0 _ (by decide) rfl (by simp [I64]) (slv_at (e := 3) (m := (0, 0)) (by simp [heap_al, Array.getElem_push, ints])) (by decide)).mono ?_
  rintro e w4 ⟨rfl, rfl⟩
  go_wp2_with fail
  go_ret
  refine ⟨rfl, ?_⟩
  have hz := hB1.size
  repeat (refine below_al ?_ (by simp; omega) _)
  refine below_dr ?_ _
  exact below_al hB1 hz _

end Go.Proofs.Ytfmahgobogelkaa

/- The contracts of package lit and the kit once more, for closed calls: the world behind is told by Below alone. -/
namespace Go.Proofs.Ytfmahgobogelkaa
open Go.RowKit

theorem lit_CheckB (n : Int) (a : Option Addr) (xs : List Int) (m cap : Nat) (r : Int) (w : World) (hr : litCheck n xs = r) (hm : m = xs.length) (hx : ∀ x ∈ xs, I64 x) (hs : SlV w a (ints xs)) (hl : xs.length ≤ 9223372036854775807) :
    Calls Try.prog 24 #[.int .i64 n, .slice a m cap] w fun e w' => e = .returned (.int .i64 r) ∧ Below w.heap.size w w' :=
  (lit_CheckR n a xs m cap r w hr hm hx hs hl).mono fun _ _ ⟨he, hw⟩ => ⟨he, hw ▸ Below.refl _ _⟩

theorem lit_HoldsB (am : Option Addr) (m : List Bool) (lm capm : Nat) (a : Option Addr) (xs : List Int) (lx cap : Nat) (r : Bool) (w : World) (hr : holdsB m xs = r) (hlm : lm = m.length) (hlx : lx = xs.length) (hm : SlV w am (bools m)) (hx : ∀ x ∈ xs, I64 x)
    (hs : SlV w a (ints xs)) (hl : xs.length ≤ 9223372036854775807) (hl2 : m.length ≤ 9223372036854775807) :
    Calls Try.prog 25 #[.slice am lm capm, .slice a lx cap] w fun e w' => e = .returned (.bool r) ∧ Below w.heap.size w w' :=
  (lit_HoldsR am m lm capm a xs lx cap r w hr hlm hlx hm hx hs hl hl2).mono fun _ _ ⟨he, hw⟩ => ⟨he, hw ▸ Below.refl _ _⟩

theorem lit_LessB (a b : Int) (r : Bool) (w : World) (hr : lessB a b = r) (ha : I64 a) (hb : I64 b) :
    Calls Try.prog 27 #[.int .i64 a, .int .i64 b] w fun e w' => e = .returned (.bool r) ∧ Below w.heap.size w w' :=
  (lit_Less' a b r w hr ha hb).mono fun _ _ ⟨he, hw⟩ => ⟨he, hw ▸ Below.refl _ _⟩

theorem kit_EqualIntsB (a b : Option Addr) (xs ys : List Int) (la ca lb cb : Nat) (r : Bool) (w : World) (hr : eqI xs ys = r) (hla : la = xs.length) (hlb : lb = ys.length) (hs : SlV w a (ints xs)) (ht : SlV w b (ints ys)) (hl : xs.length ≤ 9223372036854775807) :
    Calls Try.prog 26 #[.slice a la ca, .slice b lb cb] w fun e w' => e = .returned (.bool r) ∧ Below w.heap.size w w' :=
  (kit_EqualIntsR a b xs ys la ca lb cb r w hr hla hlb hs ht hl).mono fun _ _ ⟨he, n, hw⟩ => ⟨he, hw ▸ below_dr (Below.refl _ _) n⟩

theorem lit_NormB (a : Option Addr) (xs ys : List Int) (r : Bool) (m cap : Nat) (w : World) (hr : adjB (normL xs) = r) (hy : normV xs = ys) (hm : m = xs.length) (hcap : m ≤ cap) (hc0 : a = none → cap = 0) (hs : SlV w a (ints xs)) (hx : ∀ x ∈ xs, I64 x) (hl : xs.length ≤ 4294967296) :
    Calls Try.prog 23 #[.slice a m cap] w fun e w' =>
      ∃ a' c', e = .returned (.tuple #[.slice a' ys.length c', .bool r]) ∧ SlV w' a' (ints ys) ∧ Below w.heap.size w w' :=
  (lit_NormR a xs ys r m cap w hr hy hm hcap hc0 hs hx hl).mono fun _ _ ⟨a', c', he, ho, hb⟩ => ⟨a', c', he, OwnT.slv ho, hb⟩

theorem slice_headB {P : Program} {t e : TypeId} {a : Option Addr} {n c : Nat} {k : Int} (ht : P.underlying t = some (.slice e)) (hsz : ∀ wx, (sizeOf e).run P wx = .ok 1 wx) (h0 : 0 ≤ k) (h1 : k ≤ c) :
    ∀ wx, (Instr.slice t (.slice a n c) none (some (.int .i64 k)) none).run P wx = .ok (.slice a k.toNat c) wx := by
  intro wx
  have he : P.elem t = e := by simp [Program.elem, ht]
  rw [run_slice_h (P := P) wx t a n c (by rw [he]; exact ht) .i64 k h0 h1, he, hsz]
  cases a <;> simp [sliced, Result.andThen, Addr.add]

theorem box_belowB (w : World) (o : Obj) : Below w.heap.size w (w.alloc o) := below_al (Below.refl _ _) (Nat.le_refl _) _

theorem blk2a (w : World) (o o2 : Obj) : ((w.alloc o).alloc o2).heap[w.heap.size]? = some o := by
  rw [heap_al, heap_al, Array.getElem?_push, if_neg (by simp), Array.getElem?_push, if_pos rfl]

theorem blk2b (w : World) (o o2 : Obj) : ((w.alloc o).alloc o2).heap[w.heap.size + 1]? = some o2 := by
  rw [heap_al, Array.getElem?_push, if_pos (by simp)]

/-- A new block, then a call. -/
theorem below_new {B : Nat} {w w1 w2 : World} {o : Obj} (h : Below B w w1) (hB : B ≤ w1.heap.size) (h2 : Below (w1.heap.size + 1) (w1.alloc o) w2) : Below B w w2 :=
  (below_al h hB o).trans (h2.mono (by omega))

theorem below_new2 {B : Nat} {w w1 w2 : World} {o o2 : Obj} (h : Below B w w1) (hB : B ≤ w1.heap.size) (h2 : Below (w1.heap.size + 1 + 1) ((w1.alloc o).alloc o2) w2) : Below B w w2 :=
  (below_al (below_al h hB o) (by simp only [size_al]; omega) o2).trans (h2.mono (by omega))

end Go.Proofs.Ytfmahgobogelkaa
