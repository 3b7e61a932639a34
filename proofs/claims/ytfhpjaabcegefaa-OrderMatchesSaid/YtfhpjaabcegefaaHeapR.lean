/- How a heap lies in memory; the contracts of before and is. -/
import Derived.Test.YtfhpjaabcegefaaMem
import Derived.Test.YtfhpjaabcegefaaPHeapB
namespace Go.Proofs.Ytfhpjaabcegefaa.Ord
open Go.RowKit

theorem rw_val {w : World} {g c n : Nat} {xs : List Int} {k : Nat} (h : Rw w (.slice (some ⟨g, 0, none⟩) n c) xs) (hn : n = xs.length) (hk : k < xs.length) : w.cell? ⟨g, k, none⟩ = some (.int .i64 (at' xs k)) := by
  rw [rw_get h hn hk]; simp [at', hk]

/-- The order that a queue is given. -/
def fnv : Value := .func (.func 29) #[] #[]

/-- A heap: activities, items, places. -/
structure HRep (w : World) (b : Nat) (va vi vp : Value) (A I P : List Int) : Prop where
  blk : w.heap[b]? = some (.cells #[va, vi, vp, .pointer (some ⟨b, 0, none⟩), fnv] 59)
  ra : Rw w va A
  ri : Rw w vi I
  rp : Rw w vp P
  ai : va.ownBlock ≠ vi.ownBlock
  ap : va.ownBlock ≠ vp.ownBlock
  ip : vi.ownBlock ≠ vp.ownBlock

/-- The heap's own blocks. -/
def foot (b : Nat) (va vi vp : Value) (k : Nat) : Prop := k = b ∨ va.ownBlock = some k ∨ vi.ownBlock = some k ∨ vp.ownBlock = some k

theorem foot_lt {w : World} {b : Nat} {va vi vp : Value} {A I P : List Int} (h : HRep w b va vi vp A I P) {k : Nat} (hk : foot b va vi vp k) : k < w.heap.size := by
  rcases hk with rfl | hk | hk | hk
  · exact (Array.getElem?_eq_some_iff.1 h.blk).1
  · exact rw_lt h.ra k hk
  · exact rw_lt h.ri k hk
  · exact rw_lt h.rp k hk

/-- What touches none of its blocks leaves it as it is. -/
theorem hrep_frame {w w' : World} {b : Nat} {va vi vp : Value} {A I P : List Int} (h : HRep w b va vi vp A I P) (hk : ∀ k, foot b va vi vp k → w'.heap[k]? = w.heap[k]?) : HRep w' b va vi vp A I P :=
  ⟨(hk b (Or.inl rfl)).trans h.blk, rw_frame h.ra fun k e => hk k (Or.inr (Or.inl e)), rw_frame h.ri fun k e => hk k (Or.inr (Or.inr (Or.inl e))), rw_frame h.rp fun k e => hk k (Or.inr (Or.inr (Or.inr e))), h.ai, h.ap, h.ip⟩

theorem hrep_drewN {w : World} {b : Nat} {va vi vp : Value} {A I P : List Int} (h : HRep w b va vi vp A I P) (n : Nat) : HRep (w.drewN n) b va vi vp A I P := hrep_frame h fun _ _ => rfl

theorem hrep_drew {w : World} {b : Nat} {va vi vp : Value} {A I P : List Int} (h : HRep w b va vi vp A I P) : HRep w.drew b va vi vp A I P := hrep_frame h fun _ _ => rfl

/-- Its five cells. -/
theorem hrep_cells {w : World} {b : Nat} {va vi vp : Value} {A I P : List Int} (h : HRep w b va vi vp A I P) :
    w.cell? ⟨b, 0, none⟩ = some va ∧ w.cell? ⟨b, 1, none⟩ = some vi ∧ w.cell? ⟨b, 2, none⟩ = some vp ∧ w.cell? ⟨b, 3, none⟩ = some (.pointer (some ⟨b, 0, none⟩)) ∧ w.cell? ⟨b, 4, none⟩ = some (.func (.func 29) #[] #[]) :=
  ⟨fit_cell (vs := [va, vi, vp, .pointer (some ⟨b, 0, none⟩), fnv]) h.blk 0, fit_cell (vs := [va, vi, vp, .pointer (some ⟨b, 0, none⟩), fnv]) h.blk 1, fit_cell (vs := [va, vi, vp, .pointer (some ⟨b, 0, none⟩), fnv]) h.blk 2, fit_cell (vs := [va, vi, vp, .pointer (some ⟨b, 0, none⟩), fnv]) h.blk 3, fit_cell (vs := [va, vi, vp, .pointer (some ⟨b, 0, none⟩), fnv]) h.blk 4⟩

theorem hrep_free {w : World} {b : Nat} {va vi vp : Value} {A I P : List Int} (h : HRep w b va vi vp A I P) (k : Nat) : w.frozen? ⟨b, k, none⟩ = false := frozen_of_row _ _ _ _ _ h.blk

set_option maxHeartbeats 1000000 in
theorem heap_before (b : Nat) (va vi vp : Value) (A I P : List Int) (x y : Int) (r : Bool) (w : World) (hr : bef A x y = r) (h : HRep w b va vi vp A I P) (hx : 0 ≤ x ∧ x < A.length) (hy : 0 ≤ y ∧ y < A.length) (hl : A.length ≤ 4294967296) :
    Calls Try.prog 29 #[.pointer (some ⟨b, 0, none⟩), .int .i64 x, .int .i64 y] w fun e w' => e = .returned (.bool r) ∧ ∃ n, w' = w.drewN n := by
  obtain ⟨kx, rfl⟩ := Int.eq_ofNat_of_zero_le hx.1
  obtain ⟨ky, rfl⟩ := Int.eq_ofNat_of_zero_le hy.1
  obtain ⟨ga, ca, rfl⟩ := rw_form h.ra (by omega)
  have hc0 := (hrep_cells h).1
  have lx : kx < A.length := by omega
  have ly : ky < A.length := by omega
  have hcx := rw_get h.ra rfl lx
  have hcy := rw_get h.ra rfl ly
  have ex : actv A (kx : Int) = A[kx] := by simp [actv, lx]
  have ey : actv A (ky : Int) = A[ky] := by simp [actv, ly]
  have hbx : (kx : Int) < A.length := by omega
  have hby : (ky : Int) < A.length := by omega
  have HR : Hid (bef A kx ky = r) := hr
  obtain ⟨ax, hax⟩ : ∃ ax, A[kx] = ax := ⟨_, rfl⟩
  obtain ⟨ay, hay⟩ : ∃ ay, A[ky] = ay := ⟨_, rfl⟩
  rw [hax] at hcx ex
  rw [hay] at hcy ey
  have EX := hid ex
  have EY := hid ey
  clear h hr ex ey hax hay hx hy
  cases hne : (ax != ay) with
  | true =>
    go_enter Try.func29, Try.ntmps29
    go_wp2_with fail
    go_quiet (fail)
    go_wp2_with fail
    go_quiet (fail)
    go_wp2_with fail
    go_ret
    refine ⟨?_, _, by first | rfl | exact World.drewN_drewN ..⟩
    rw [← HR.out]
    have : ax ≠ ay := by simpa using hne
    simp [bef, EX.out, EY.out, this]
  | false =>
    go_enter Try.func29, Try.ntmps29
    go_wp2_with fail
    go_quiet (fail)
    go_wp2_with fail
    go_ret
    refine ⟨?_, _, by first | rfl | exact World.drewN_drewN ..⟩
    rw [← HR.out]
    have : ax = ay := by simpa using hne
    simp [bef, EX.out, EY.out, this]

set_option maxHeartbeats 1000000 in
theorem heap_is (b : Nat) (va vi vp : Value) (A I P : List Int) (v : Int) (r : Bool) (w : World) (hr : (decide (1 ≤ v) && decide (v < A.length)) = r) (h : HRep w b va vi vp A I P) :
    Calls Try.prog 30 #[.pointer (some ⟨b, 0, none⟩), .int .i64 v] w fun e w' => e = .returned (.bool r) ∧ w = w' := by
  obtain ⟨aa, ca, rfl, -⟩ := rw_shape h.ra
  have hc0 := (hrep_cells h).1
  have HR := hid hr
  clear h hr
  cases h1 : decide (1 ≤ v) with
  | false =>
    have h1' : ¬ 1 ≤ v := by simpa using h1
    go_enter Try.func30, Try.ntmps30
    go_wp2_with fail
    go_ret
    exact ⟨by rw [← HR.out, h1]; rfl, rfl⟩
  | true =>
    have h1' : 1 ≤ v := by simpa using h1
    cases h2 : decide (v < A.length)
    all_goals
      go_enter Try.func30, Try.ntmps30
      go_wp2_with fail
      go_ret
      exact ⟨by rw [← HR.out, h1, h2]; rfl, rfl⟩

end Go.Proofs.Ytfhpjaabcegefaa.Ord
