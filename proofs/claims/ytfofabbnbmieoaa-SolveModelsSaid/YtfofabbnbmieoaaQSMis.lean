/- What was left out of the merged texts and is needed here. -/
import Derived.Test.YtfofabbnbmieoaaQ19
import Derived.Test.YtfofabbnbmieoaaQ20

namespace Go.Proofs.Ytfofabbnbmieoaa
open Go.RowKit

theorem info_bool : (Try.prog.info? 4).map (fun i => (i.zero, i.size, i.bytes)) = some (some (.bool false), 1, 1) := by kernel_rfl

/-- The bit i of a number. -/
def bitB (b : Int) (i : Nat) : Bool := b.toNat.testBit i

/-- weepholelaw02.Model. -/
def modelL (n : Nat) (b : Int) : List Bool := (List.range n).map (bitB b)

/-- What the model holds after k rounds. -/
def modelAt (n : Nat) (b : Int) (k : Nat) : List Value := (List.range n).map (fun i => Value.bool (decide (i < k) && bitB b i))

theorem modelAt_zero {n : Nat} {b : Int} : (madeCells (Value.bool false).cells (n * 1)).toList = modelAt n b 0 := by
  simp only [modelAt, madeCells, Value.cells, Nat.mul_one, Array.toList_map, Array.toList_range]
  refine List.map_congr_left fun i _ => ?_
  simp [Nat.mod_one]

theorem modelAt_succ {n k : Nat} {b : Int} (h : k < n) : (modelAt n b k).set k (.bool (bitB b k)) = modelAt n b (k + 1) := by
  refine List.ext_getElem? fun i => ?_
  rw [List.getElem?_set]
  by_cases hi : k = i
  · subst hi; simp [modelAt, h]
  · rw [if_neg hi]
    by_cases hn : i < n
    · have : (i < k) ↔ (i < k + 1) := by omega
      simp [modelAt, hn, this]
    · simp [modelAt, hn]

theorem modelAt_end {n : Nat} {b : Int} : modelAt n b n = bools (modelL n b) := by
  simp only [modelAt, bools, modelL, List.map_map]
  refine List.map_congr_left fun i hi => ?_
  have := List.mem_range.1 hi
  simp [this]

theorem bits_and_u16_one (a : Nat) (ha : a < 65536) : bits BinOp.and IntKind.u16 (a : Int) 1 = ((a % 2 : Nat) : Int) := by
  have h1 : (BitVec.ofInt 16 (a : Int)).toNat = a := by
    rw [BitVec.ofInt_natCast, BitVec.toNat_ofNat]; exact Nat.mod_eq_of_lt (by omega)
  have h2 : (BitVec.ofInt 16 (1 : Int)).toNat = 1 := by decide
  show IntKind.u16.wrap ((BitVec.ofInt 16 (a : Int) &&& BitVec.ofInt 16 1).toNat : Int) = _
  rw [BitVec.toNat_and, h1, h2, Nat.and_one_is_mod, IntWalk.u16_in _ (by omega)]

theorem model_bit (b : Int) (k : Nat) (h0 : 0 ≤ b) (h1 : b ≤ 65535) : (bits BinOp.and IntKind.u16 (b / 2 ^ min k 16) 1 == 1) = bitB b k := by
  obtain ⟨m, rfl⟩ := Int.eq_ofNat_of_zero_le h0
  have hm : m ≤ 65535 := by omega
  have e1 : ((m : Int) / 2 ^ min k 16) = ((m / 2 ^ min k 16 : Nat) : Int) := by simp
  have hlt : m / 2 ^ min k 16 < 65536 := Nat.lt_of_le_of_lt (Nat.div_le_self _ _) (by omega)
  rw [e1, bits_and_u16_one _ hlt]
  simp only [bitB, Int.toNat_natCast, Nat.testBit_eq_decide_div_mod_eq]
  have e2 : m / 2 ^ min k 16 = m / 2 ^ k := by
    by_cases hk : k ≤ 16
    · rw [Nat.min_eq_left hk]
    · have h16 : m / 2 ^ 16 = 0 := Nat.div_eq_of_lt (by omega)
      have hkk : m / 2 ^ k = 0 := Nat.div_eq_of_lt (Nat.lt_of_lt_of_le (show m < 2 ^ 16 by omega) (Nat.pow_le_pow_right (by decide) (by omega)))
      rw [Nat.min_eq_right (by omega), h16, hkk]
  rw [e2]
  generalize m / 2 ^ k = q
  by_cases h : q % 2 = 1
  · simp [h]
  · have : q % 2 = 0 := by omega
    simp [this]

set_option maxHeartbeats 1000000 in
theorem law02_Model (n : Nat) (b : Int) (w : World) (hn : n ≤ 64) (h0 : 0 ≤ b) (h1 : b ≤ 65535) :
    Calls Try.prog 38 #[.int .i64 n, .int .u16 b] w fun e w' => ∃ v, e = .returned v ∧ w'.ownsRow w.heap.size 4 1 v n (bools (modelL n b)) ∧ Below w.heap.size w w' := by
  obtain ⟨i0, hi, hz0, hz1, hz2⟩ := info_parts info_bool

  go_enter Try.func38, Try.ntmps38
  go_wp2_with (at_make; refine wpList_make_full _ rfl _ _ 27 rfl w.heap.size 4 i0 (.bool false) 1 Try.underlying27 hi hz0 hz1 _ _ _ _ n rfl rfl rfl rfl (by rw [hz2]; omega) (by unfold maxLen; omega) (Nat.le_refl _) ?_; intro w3 hown3 hgrow3)

  have hb3 : Below w.heap.size w w3 := (Below.refl _ _).grown hgrow3 (by omega) (by simp)
  have HO3 := hid hown3
  clear hown3 hgrow3
  go_wp2_with fail
  go_loopw [6] (fun i wr => ∃ k : Nat, k ≤ n ∧ i = .int .i64 k ∧ Hid (wr.ownsRow w.heap.size 4 1 (.slice (some ⟨w.heap.size, 0, none⟩) n n) n (modelAt n b k)) ∧ Below w.heap.size w wr) (fun i _ => n - (intOf i).toNat)
  case atStart => exact ⟨0, Nat.zero_le _, rfl, by rw [← modelAt_zero]; exact HO3.out, hb3⟩
  case round =>
    obtain ⟨k, hk, rfl, ho, hb⟩ := hrel
    by_cases hlt : k < n
    · have hc : wr.cell? ⟨w.heap.size, k, none⟩ = some (.bool (decide (k < k) && bitB b k)) := by
        rw [ho.out.cellAt k (by omega)]; simp [modelAt, hlt]
      have hfz : wr.frozen? ⟨w.heap.size, k, none⟩ = false := ho.out.frozenAt k
      have HN := hid (ho.out.stored k (.bool (bitB b k))).1
      have HG := hid (ho.out.stored k (.bool (bitB b k))).2
      go_wp2_with fail
      go_roundw
      case rel =>
        rw [model_bit b k h0 h1]
        exact ⟨k + 1, by omega, by go_num, by rw [← modelAt_succ hlt]; exact HN.out, hb.grown HG.out hb.size (by simp)⟩
      case measure => simp [intOf]; omega
    · have hkn : k = n := by omega
      subst hkn
      go_wp2_with fail
      go_ret
      exact ⟨_, rfl, by rw [← modelAt_end]; exact ho, hb⟩

end Go.Proofs.Ytfofabbnbmieoaa

namespace Go.Proofs.Ytfofabbnbmieoaa
open Go.RowKit

theorem law02_ModelR (x : Int) (n : Nat) (b : Int) (w : World) (hx : x = n) (hn : n ≤ 64) (h0 : 0 ≤ b) (h1 : b ≤ 65535) :
    Calls Try.prog 38 #[.int .i64 x, .int .u16 b] w fun e w' => ∃ a c, e = .returned (.slice a (modelL n b).length c) ∧ w'.ownsRow w.heap.size 4 1 (.slice a (modelL n b).length c) (modelL n b).length (bools (modelL n b)) ∧ SlV w' a (bools (modelL n b)) ∧ Below w.heap.size w w' := by
  subst hx
  refine (law02_Model n b w hn h0 h1).mono ?_
  rintro e w' ⟨v, rfl, ho, hb⟩
  obtain ⟨a, c, rfl, _, _, hs⟩ := own_sl ho
  have hl : (modelL n b).length = n := by simp [modelL]
  rw [bools_length] at *
  exact ⟨a, c, rfl, hl.symm ▸ ho, hs, hb⟩

end Go.Proofs.Ytfofabbnbmieoaa
