/- The contracts of weepholelaw02.Small, cnf.Check and the reference's Check of layer 2. -/
import Derived.Test.YtfgaglgaofceiaaLitR
import Derived.Test.YtfgaglgaofceiaaPCnf
namespace Go.Proofs.Ytfgaglgaofceiaa
open Go.RowKit

/-- The slice with the address 'a' reads as the lists 'f'. -/
def Rws (w : World) (a : Option Addr) (f : List (List Int)) : Prop :=
  ∀ j c, f[j]? = some c → ∃ b off v, a = some ⟨b, off, none⟩ ∧ w.cell? ⟨b, off + j, none⟩ = some v ∧ SlI w v c

theorem Rws.below {w w' : World} {a : Option Addr} {f : List (List Int)} (h : Rws w a f) (hb : Below w.heap.size w w') : Rws w' a f :=
  fun j c hj => let ⟨b, off, v, h1, h2, h3⟩ := h j c hj; ⟨b, off, v, h1, below_keeps hb _ _ h2, h3.below hb⟩

/-- Every clause is of ints, and none is too long for an int. -/
def FOk (f : List (List Int)) : Prop := ∀ c ∈ f, (∀ x ∈ c, I64 x) ∧ c.length ≤ 9223372036854775807

theorem Rws.row {w : World} {a : Option Addr} {f : List (List Int)} (h : Rws w a f) (hf : FOk f) {k : Nat} (hk : k < f.length) :
    ∃ b off c a' c', a = some ⟨b, off, none⟩ ∧ w.cell? ⟨b, off + k, none⟩ = some (.slice a' c.length c') ∧ SlV w a' (ints c) ∧ f[k]? = some c ∧ (∀ x ∈ c, I64 x) ∧ c.length ≤ 9223372036854775807 ∧ c.length ≤ c' ∧ (a' = none → c' = 0) := by
  obtain ⟨b, off, v, h1, h2, a', c', rfl, h3, h4, h5⟩ := h k f[k] (by simp [hk])
  have := hf f[k] (by simp)
  exact ⟨b, off, f[k], a', c', h1, h2, h5, by simp [hk], this.1, this.2, h3, h4⟩

/-- The struct's box. -/
abbrev fbox (n : Int) (a : Option Addr) (m c : Nat) : Obj := .cells #[.int .i64 n, .slice a m c] 34

theorem box_below (w : World) (o : Obj) : Below w.heap.size w (w.alloc o) := below_al (Below.refl _ _) (Nat.le_refl _) _

set_option maxHeartbeats 1000000 in
theorem law02_Small (n : Int) (a : Option Addr) (f : List (List Int)) (m c : Nat) (w : World) (hm : m = f.length) (hf : FOk f) (hr : Rws w a f) (hl : f.length ≤ 9223372036854775807) :
    Calls Try.prog 25 #[.agg #[.int .i64 n, .slice a m c]] w fun e w' => e = .returned (.bool (smallB f)) ∧ w.alloc (fbox n a m c) = w' := by
  subst hm
  have HF := hid hf
  have HR := hid (hr.below (box_below w (fbox n a f.length c)))
  clear hf hr
  go_enter Try.func25, Try.ntmps25
  go_wp2_with fail
  go_loop [3] (fun i => ∃ k : Nat, k ≤ f.length ∧ k ≤ 60 ∧ i = .int .i64 k ∧ Hid ((f.take k).any (fun c => decide (40 < c.length)) = false)) (fun i => 60 - (intOf i).toNat)
  case atStart => exact ⟨0, Nat.zero_le _, by decide, rfl, rfl⟩
  case round =>
    obtain ⟨k, hk, hk6, rfl, hrel⟩ := hrel
    by_cases hlt : k < f.length
    · by_cases h60 : k < 60
      · obtain ⟨b, off, c1, a1, cc1, rfl, hcell, -, hc1, -, -, -, -⟩ := HR.out.row HF.out hlt
        have HC := hid hc1
        have hd : decide (k < f.length) = true := by simp [hlt]
        clear hc1
        go_wp2_with fail
        · have hgt : (40 : Int) < c1.length := by assumption
          go_ret
          exact ⟨by rw [smallB_at h60 HC.out hgt]; rfl, rfl⟩
        · have hle : (c1.length : Int) ≤ 40 := by assumption
          go_round
          case rel => exact ⟨k + 1, by omega, by omega, by go_num, take_any_succ HC.out hrel (by simp; omega)⟩
          case measure => simp [intOf]; omega
      · have hd : decide (k < f.length) = true := by simp [hlt]
        have hk60 : k = 60 := by omega
        subst hk60
        have HS := hid (smallB_end (Or.inr rfl) hrel)
        go_wp2_with fail
        go_ret
        exact ⟨by rw [HS.out]; simp; omega, rfl⟩
    · have hd : decide (k < f.length) = false := by simp; omega
      have HS := hid (smallB_end (Or.inl hlt) hrel)
      go_wp2_with fail
      go_ret
      exact ⟨by rw [HS.out]; simp; omega, rfl⟩

set_option maxHeartbeats 1000000 in
theorem cnf_Check (n : Int) (a : Option Addr) (f : List (List Int)) (m c : Nat) (w : World) (hm : m = f.length) (hf : FOk f) (hr : Rws w a f) (hl : f.length ≤ 9223372036854775807) :
    Calls Try.prog 21 #[.agg #[.int .i64 n, .slice a m c]] w fun e w' => e = .returned (.int .i64 (cnfCheck n f)) ∧ w.alloc (fbox n a m c) = w' := by
  subst hm
  have HF := hid hf
  have HR := hid (hr.below (box_below w (fbox n a f.length c)))
  clear hf hr
  go_enter Try.func21, Try.ntmps21
  go_wp2_with fail
  refine wp_scope_jumps 0 (fun a' w' => w' = w.alloc (fbox n a f.length c) ∧ ∃ u0 u1 u2 u3 u4 u5 u6 u7 u8 u9 u10 u11 u12 u13 u14 u15 u16 u17 u18 u19 u20 u21 u22 u23 u24 u25 u26 u27 u28 u29 u30 u31 : Value, a' = ⟨#[u0, u1, u2, u3, u4, u5, u6, u7, u8, u9, u10, u11, u12, u13, u14, u15, u16, u17, u18, u19, u20, u21, u22, u23, u24, u25, u26, u27, u28, u29, u30, u31], []⟩ ∧ u2 = .int .i64 (cnfCheck n f)) (fun _ _ => 0) (by rfl) ?_ ?_
  · by_cases h0 : n < 0
    · go_wp2_with fail
      simp only [Exit.jump]
      go_ret
      exact ⟨by rw [cnfCheck_range (Or.inl h0)]; rfl, rfl⟩
    · by_cases h1 : 1048576 < n
      · go_wp2_with fail
        simp only [Exit.jump]
        go_ret
        exact ⟨by rw [cnfCheck_range (Or.inr h1)]; rfl, rfl⟩
      · have hn : 0 ≤ n ∧ n ≤ 1048576 := by omega
        have HN := hid hn
        by_cases h2 : (1048576 : Int) < f.length
        · go_wp2_with fail
          simp only [Exit.jump]
          go_ret
          exact ⟨by rw [cnfCheck_long HN.out h2]; rfl, rfl⟩
        · have hl2 : (f.length : Int) ≤ 1048576 := by omega
          go_wp2_with fail
          go_loop [20] (fun i => ∃ k : Nat, k ≤ f.length ∧ i = .int .i64 k ∧ Hid ((f.take k).any (fun c => litCheck n c != 0) = false)) (fun i => f.length - (intOf i).toNat)
          case atStart => exact ⟨0, Nat.zero_le _, rfl, rfl⟩
          case round =>
            obtain ⟨k, hk, rfl, hrel⟩ := hrel
            by_cases hlt : k < f.length
            · obtain ⟨b, off, c1, a1, cc1, rfl, hcell, hsl, hc1, hx1, hl1, -, -⟩ := HR.out.row HF.out hlt
              have HC := hid hc1
              have HS := hid hsl
              have HX := hid hx1
              obtain ⟨e1, he1⟩ : ∃ e1, litCheck n c1 = e1 := ⟨_, rfl⟩
              have HE := hid he1
              clear hc1 hsl hx1 he1
              by_cases hz : e1 = 0
              · have hz' : (e1 != 0) = false := by simp [hz]
                have HZ := hid hz
                clear hz
                go_wp2_with (go_at_call 15; refine (lit_CheckR n _ c1 _ _ _ _ HE.out rfl HX.out HS.out hl1).mono ?_; rintro e w' ⟨rfl, rfl⟩)
                go_round
                case rel => exact ⟨k + 1, by omega, by go_num, take_any_succ HC.out hrel (by simp [HE.out, HZ.out])⟩
                case measure => simp [intOf]; omega
              · have hz' : (e1 != 0) = true := by simp [hz]
                have HB := hid (cnfCheck_bad HN.out hl2 HC.out hrel HE.out hz')
                clear hz
                go_wp2_with (go_at_call 15; refine (lit_CheckR n _ c1 _ _ _ _ HE.out rfl HX.out HS.out hl1).mono ?_; rintro e w' ⟨rfl, rfl⟩)
                go_step3
                simp only [Exit.then, Exit.inBlock]
                refine ⟨rfl, ?_⟩
                refine ⟨rfl, ?_⟩
                repeat (apply Exists.intro)
                exact ⟨rfl, by rw [HB.out]⟩
            · go_wp2_with fail
              simp only [Exit.jump]
              go_ret
              exact ⟨by rw [cnfCheck_ok HN.out hl2 hlt hrel]; rfl, rfl⟩
  · rintro a' w' ⟨rfl, u0, u1, u2, u3, u4, u5, u6, u7, u8, u9, u10, u11, u12, u13, u14, u15, u16, u17, u18, u19, u20, u21, u22, u23, u24, u25, u26, u27, u28, u29, u30, u31, rfl, rfl⟩
    go_wp2_with fail
    simp only [Exit.jump]
    go_ret
    exact ⟨rfl, rfl⟩

end Go.Proofs.Ytfgaglgaofceiaa
