/- The walk of the law LitOrder. -/
import Derived.Test.YtaekcejenagbgaaKnown01
import Derived.Test.YtaekcejenagbgaaSorted
namespace Go.Proofs.Ytaekcejenagbgaa
open Go.RowKit

set_option maxHeartbeats 4000000 in
theorem walk_LitOrder (x0 x1 x2 : Int) (w : World) (w0 : (Lit.int .i64 x0).wf = true) (w1 : (Lit.int .i64 x1).wf = true) (w2 : (Lit.int .i64 x2).wf = true) :
    Calls Try.prog 15 #[.int .i64 x0, .int .i64 x1, .int .i64 x2] w fun e w' => e = .returned (.bool true) ∧ Below w.heap.size w w' := by
  have h0 := i64_of_wf w0
  have h1 := i64_of_wf w1
  have h2 := i64_of_wf w2
  clear w0 w1 w2
  have C00 := hid fun w => lit_Less' x0 x0 false w (lessB_irrefl x0) h0 h0
  obtain ⟨r01, e01⟩ : ∃ r, lessB x0 x1 = r := ⟨_, rfl⟩
  obtain ⟨r10, e10⟩ : ∃ r, lessB x1 x0 = r := ⟨_, rfl⟩
  obtain ⟨r12, e12⟩ : ∃ r, lessB x1 x2 = r := ⟨_, rfl⟩
  obtain ⟨r02, e02⟩ : ∃ r, lessB x0 x2 = r := ⟨_, rfl⟩
  obtain ⟨ne, ene⟩ : ∃ r, (x0 != x1) = r := ⟨_, rfl⟩
  have K4 : r01 = true → ne = true := fun h => by
    subst h; rw [← ene]; simp; rintro rfl; rw [lessB_irrefl] at e01; simp at e01
  have K5 : r10 = true → ne = true := fun h => by
    subst h; rw [← ene]; simp; rintro rfl; rw [lessB_irrefl] at e10; simp at e10
  have K1 : r01 = true → r10 = false := fun h => by subst h; rw [← e10]; exact lessB_asymm e01
  have K2 : r01 = false → r10 = false → ne = false := fun h h' => by subst h; subst h'; rw [← ene, lessB_tri e01 e10]; simp
  have K3 : r01 = true → r12 = true → r02 = true := fun h h' => by subst h; subst h'; rw [← e02]; exact lessB_trans e01 e12
  have C01 := hid fun w => lit_Less' x0 x1 r01 w e01 h0 h1
  have C10 := hid fun w => lit_Less' x1 x0 r10 w e10 h1 h0
  have C12 := hid fun w => lit_Less' x1 x2 r12 w e12 h1 h2
  have C02 := hid fun w => lit_Less' x0 x2 r02 w e02 h0 h2
  clear e01 e10 e12 e02 h0 h1 h2
  cases r01 <;> cases r10 <;> cases r12 <;> cases r02 <;> cases ne <;> try (exfalso; simp at K1 K2 K3 K4 K5; done)
  all_goals
    clear K1 K2 K3 K4 K5
    go_enter Try.func15, Try.ntmps15
    go_wp2_with (first
      | (go_at_call 37; first
        | ((with_reducible refine (C00.out _).mono ?_); rintro e w' ⟨rfl, rfl⟩)
        | ((with_reducible refine (C01.out _).mono ?_); rintro e w' ⟨rfl, rfl⟩)
        | ((with_reducible refine (C10.out _).mono ?_); rintro e w' ⟨rfl, rfl⟩)
        | ((with_reducible refine (C12.out _).mono ?_); rintro e w' ⟨rfl, rfl⟩)
        | ((with_reducible refine (C02.out _).mono ?_); rintro e w' ⟨rfl, rfl⟩))
      | (go_at_call 30; refine (law01_known _).mono ?_; rintro e w' ⟨rfl, hb⟩))
    go_ret
    exact ⟨rfl, hb⟩

end Go.Proofs.Ytaekcejenagbgaa
