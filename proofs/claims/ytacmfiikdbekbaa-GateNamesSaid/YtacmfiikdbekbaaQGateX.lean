/- The contracts of gate's functions where they refuse, and at a nil builder. -/
import Derived.Test.YtacmfiikdbekbaaQ10

namespace Go.Proofs.Ytacmfiikdbekbaa.Ord
open Go.RowKit Go.Conc

attribute [local go_sem ↓] Go.wp_at_zero Go.wp_at_succ

set_option maxRecDepth 100000 in
set_option maxHeartbeats 1000000 in
theorem gate_And_bad {X : Nat → Prop} (w : World) (B b n : Nat) (G : List (List Int)) (x y : Int) (h : GB X w B b n G) (hn : n ≤ 1048576) (hbad : [x, y].all (fun a => !badLit n a) = false) :
    Calls Try.prog 36 #[.pointer (some ⟨b, 0, none⟩), .int .i64 x, .int .i64 y] w fun e w' => e = .returned (.tuple #[.int .i64 0, .int .i64 3]) ∧ Below w.heap.size w w' := by
  have HH := hid (gate_has (w.alloc (.cells (ints [x, y]).toArray 3 (0, 0))) B b n G (some ⟨w.heap.size, 0, none⟩) [x, y] 2 2 false (h.below (box_below _ _)) hn rfl (slv_at (heap_alloc_new _ _)) (by simp) hbad)
  clear h hbad
  go_enter Try.func36, Try.ntmps36
  go_wp2_with fail
  refine HH.out.mono ?_
  rintro e w2 ⟨rfl, rfl⟩
  go_wp2_with fail
  go_ret2
  exact ⟨rfl, box_below _ _⟩

set_option maxRecDepth 100000 in
set_option maxHeartbeats 1000000 in
theorem gate_Xor_bad {X : Nat → Prop} (w : World) (B b n : Nat) (G : List (List Int)) (x y : Int) (h : GB X w B b n G) (hn : n ≤ 1048576) (hbad : [x, y].all (fun a => !badLit n a) = false) :
    Calls Try.prog 38 #[.pointer (some ⟨b, 0, none⟩), .int .i64 x, .int .i64 y] w fun e w' => e = .returned (.tuple #[.int .i64 0, .int .i64 3]) ∧ Below w.heap.size w w' := by
  have HH := hid (gate_has (w.alloc (.cells (ints [x, y]).toArray 3 (0, 0))) B b n G (some ⟨w.heap.size, 0, none⟩) [x, y] 2 2 false (h.below (box_below _ _)) hn rfl (slv_at (heap_alloc_new _ _)) (by simp) hbad)
  clear h hbad
  go_enter Try.func38, Try.ntmps38
  go_wp2_with fail
  refine HH.out.mono ?_
  rintro e w2 ⟨rfl, rfl⟩
  go_wp2_with fail
  go_ret2
  exact ⟨rfl, box_below _ _⟩

set_option maxRecDepth 100000 in
set_option maxHeartbeats 1000000 in
theorem gate_Mux_bad {X : Nat → Prop} (w : World) (B b n : Nat) (G : List (List Int)) (c x y : Int) (h : GB X w B b n G) (hn : n ≤ 1048576) (hbad : [c, x, y].all (fun a => !badLit n a) = false) :
    Calls Try.prog 39 #[.pointer (some ⟨b, 0, none⟩), .int .i64 c, .int .i64 x, .int .i64 y] w fun e w' => e = .returned (.tuple #[.int .i64 0, .int .i64 3]) ∧ Below w.heap.size w w' := by
  have HH := hid (gate_has (w.alloc (.cells (ints [c, x, y]).toArray 3 (0, 0))) B b n G (some ⟨w.heap.size, 0, none⟩) [c, x, y] 3 3 false (h.below (box_below _ _)) hn rfl (slv_at (heap_alloc_new _ _)) (by simp) hbad)
  clear h hbad
  go_enter Try.func39, Try.ntmps39
  go_wp2_with fail
  refine HH.out.mono ?_
  rintro e w2 ⟨rfl, rfl⟩
  go_wp2_with fail
  go_ret2
  exact ⟨rfl, box_below _ _⟩

set_option maxRecDepth 100000 in
set_option maxHeartbeats 1000000 in
theorem gate_Or_bad {X : Nat → Prop} (w : World) (B b n : Nat) (G : List (List Int)) (x y : Int) (h : GB X w B b n G) (hn : n ≤ 1048576) (hx : IntKind.i64.wrap (-x) = -x) (hy : IntKind.i64.wrap (-y) = -y) (hbad : [-x, -y].all (fun a => !badLit n a) = false) :
    Calls Try.prog 37 #[.pointer (some ⟨b, 0, none⟩), .int .i64 x, .int .i64 y] w fun e w' => e = .returned (.tuple #[.int .i64 0, .int .i64 3]) ∧ Below w.heap.size w w' := by
  have HA := hid (gate_And_bad w B b n G (-x) (-y) h hn hbad)
  clear h hbad
  go_enter Try.func37, Try.ntmps37
  go_wp2_with fail
  refine HA.out.mono ?_
  rintro e w2 ⟨rfl, hb⟩
  have HB := hid hb
  clear hb
  go_wp2_with fail
  go_ret2
  exact ⟨rfl, HB.out⟩

set_option maxRecDepth 100000 in
set_option maxHeartbeats 1000000 in
theorem gate_Clause_bad {X : Nat → Prop} (w : World) (B b n : Nat) (G : List (List Int)) (al : Option Addr) (l : List Int) (m cp : Nat) (h : GB X w B b n G) (hn : n ≤ 1048576) (hm : m = l.length) (hs : SlV w al (ints l)) (hl : l.length ≤ 1048576) (hbad : l.all (fun a => !badLit n a) = false) :
    Calls Try.prog 44 #[.pointer (some ⟨b, 0, none⟩), .slice al m cp] w fun e w' => e = .returned (.int .i64 3) ∧ w = w' := by
  have HH := hid (gate_has w B b n G al l m cp false h hn hm hs hl hbad)
  clear h hbad hm hs
  go_enter Try.func44, Try.ntmps44
  go_wp2_with fail
  refine HH.out.mono ?_
  rintro e w2 ⟨rfl, rfl⟩
  go_wp2_with fail
  go_ret
  exact ⟨rfl, rfl⟩

set_option maxRecDepth 100000 in
set_option maxHeartbeats 1000000 in
theorem gate_Clause_long {X : Nat → Prop} (w : World) (B b n : Nat) (G : List (List Int)) (al : Option Addr) (l : List Int) (m cp : Nat) (h : GB X w B b n G) (hn : n ≤ 1048576) (hm : m = l.length) (hs : SlV w al (ints l)) (hl : l.length ≤ 1048576) (hok : l.all (fun a => !badLit n a) = true) (hlong : 4096 < m) :
    Calls Try.prog 44 #[.pointer (some ⟨b, 0, none⟩), .slice al m cp] w fun e w' => e = .returned (.int .i64 5) ∧ w = w' := by
  have HH := hid (gate_has w B b n G al l m cp true h hn hm hs hl hok)
  have d1 : decide ((4096 : Int) < (m : Int)) = true := decide_eq_true (by omega)
  clear h hok hm hs
  go_enter Try.func44, Try.ntmps44
  go_wp2_with fail
  refine HH.out.mono ?_
  rintro e w2 ⟨rfl, rfl⟩
  go_wp2_with fail
  go_ret
  exact ⟨rfl, rfl⟩

/-! ### A nil builder -/

theorem nil_Fresh (w : World) : Calls Try.prog 43 #[.pointer none] w fun e w' => e = .returned (.tuple #[.int .i64 0, .int .i64 1]) ∧ w = w' := by
  go_enter Try.func43, Try.ntmps43
  go_wp2_with fail
  go_ret2
  exact ⟨rfl, rfl⟩

theorem nil_And (w : World) (x y : Int) : Calls Try.prog 36 #[.pointer none, .int .i64 x, .int .i64 y] w fun e w' => e = .returned (.tuple #[.int .i64 0, .int .i64 1]) ∧ w = w' := by
  go_enter Try.func36, Try.ntmps36
  go_wp2_with fail
  go_ret2
  exact ⟨rfl, rfl⟩

theorem nil_Xor (w : World) (x y : Int) : Calls Try.prog 38 #[.pointer none, .int .i64 x, .int .i64 y] w fun e w' => e = .returned (.tuple #[.int .i64 0, .int .i64 1]) ∧ w = w' := by
  go_enter Try.func38, Try.ntmps38
  go_wp2_with fail
  go_ret2
  exact ⟨rfl, rfl⟩

theorem nil_Mux (w : World) (c x y : Int) : Calls Try.prog 39 #[.pointer none, .int .i64 c, .int .i64 x, .int .i64 y] w fun e w' => e = .returned (.tuple #[.int .i64 0, .int .i64 1]) ∧ w = w' := by
  go_enter Try.func39, Try.ntmps39
  go_wp2_with fail
  go_ret2
  exact ⟨rfl, rfl⟩

theorem nil_Or (w : World) : Calls Try.prog 37 #[.pointer none, .int .i64 0, .int .i64 0] w fun e w' => e = .returned (.tuple #[.int .i64 0, .int .i64 1]) ∧ w = w' := by
  go_enter Try.func37, Try.ntmps37
  go_wp2_with fail
  refine (nil_And w _ _).mono ?_
  rintro e w2 ⟨rfl, rfl⟩
  go_wp2_with fail
  go_ret2
  exact ⟨rfl, rfl⟩

theorem nil_Clause (w : World) (v : Value) : Calls Try.prog 44 #[.pointer none, v] w fun e w' => e = .returned (.int .i64 1) ∧ w = w' := by
  go_enter Try.func44, Try.ntmps44
  go_wp2_with fail
  go_ret
  exact ⟨rfl, rfl⟩

theorem nil_True (w : World) : Calls Try.prog 46 #[.pointer none] w fun e w' => e = .returned (.int .i64 0) ∧ w = w' := by
  go_enter Try.func46, Try.ntmps46
  go_wp2_with fail
  go_ret
  exact ⟨rfl, rfl⟩

set_option maxRecDepth 100000 in
theorem nil_Formula (w : World) : Calls Try.prog 33 #[.pointer none] w fun e w' => e = .returned (.agg #[.int .i64 0, .slice none 0 0]) ∧ Below w.heap.size w w' := by
  go_enter Try.func33, Try.ntmps33
  go_wp2_with fail
  exact bodyPost_ret (v := .agg #[.int .i64 0, .slice none 0 0]) (by simp [results, Try.results33, go_sem]) rfl ⟨rfl, by first | exact box_below _ _ | exact (box_below _ _).setCell (Nat.le_refl _) _ | exact ((box_below _ _).setCell (Nat.le_refl _) _).setCell (Nat.le_refl _) _⟩

end Go.Proofs.Ytacmfiikdbekbaa.Ord
