/- The contracts of the equalities of lists of lists and of formulas: slices.Equal, slices.EqualFunc, cnf.Equal, the kit's EqualLists and EqualFormula. -/
import Derived.Test.YtacmfiikdbekbaaQ2

namespace Go.Proofs.Ytacmfiikdbekbaa
open Go.RowKit

/-- Equality of two lists of lists, as a Bool. -/
def eqR (f g : List (List Int)) : Bool := decide (f = g)

theorem eqR_len {f g : List (List Int)} (h : ¬ f.length = g.length) : eqR f g = false := by
  simp [eqR]; intro e; exact h (by rw [e])
theorem eqR_at {f g : List (List Int)} {k : Nat} {c d : List Int} (hx : f[k]? = some c) (hy : g[k]? = some d) (h : eqI c d = false) : eqR f g = false := by
  simp only [eqR, eqI, decide_eq_false_iff_not] at *; intro e; rw [e, hy] at hx; injection hx with hx; exact h hx.symm
theorem eqR_all {f g : List (List Int)} {k : Nat} (hk : ¬ k < f.length) (hl : f.length = g.length) (h : f.take k = g.take k) : eqR f g = true := by
  rw [List.take_of_length_le (by omega), List.take_of_length_le (by omega)] at h
  simp [eqR, h]
theorem eqI_true {c d : List Int} (h : eqI c d = true) : c = d := by simpa [eqI] using h

/-- A contract of a callee that draws, met in a region whose order is open. -/
theorem quiet_drew {P : Program} {f : FuncId} {args : Array Value} {w : World} {n : Nat} {v : Value}
    (h : Calls P f args (w.drewN n) fun e w' => e = .returned v ∧ ∃ m, w' = (w.drewN n).drewN m) : Calls P f args (w.drewN n) fun e w'' => e = .returned v ∧ ∃ m, w'' = w.drewN m :=
  h.mono fun _ _ ⟨he, m, hm⟩ => ⟨he, n + m, by rw [hm]; exact World.drewN_drewN ..⟩

/-- The same behind an earlier region's draws. -/
theorem quiet_drew2 {P : Program} {f : FuncId} {args : Array Value} {w : World} {k n : Nat} {v : Value}
    (h : Calls P f args (w.drewN (k + n)) fun e w' => e = .returned v ∧ ∃ m, w' = (w.drewN (k + n)).drewN m) : Calls P f args (w.drewN (k + n)) fun e w'' => e = .returned v ∧ ∃ m, w'' = w.drewN (k + m) :=
  h.mono fun _ _ ⟨he, m, hm⟩ => ⟨he, n + m, by rw [hm, World.drewN_drewN, Nat.add_assoc]⟩

set_option maxHeartbeats 400000 in
theorem slices_Equal (a b : Option Addr) (xs ys : List Int) (la ca lb cb : Nat) (r : Bool) (w : World) (hr : eqI xs ys = r) (hla : la = xs.length) (hlb : lb = ys.length) (hs : SlV w a (ints xs)) (ht : SlV w b (ints ys)) (hl : xs.length ≤ 9223372036854775807) :
    Calls Try.prog 52 #[.slice a la ca, .slice b lb cb] w fun e w' => e = .returned (.bool r) ∧ ∃ n, w' = w.drewN n := by
  subst hla; subst hlb
  have HR := hid hr
  clear hr
  by_cases hlen : xs.length = ys.length
  · have hb1 : ((xs.length : Int) != ys.length) = false := by simp [hlen]
    have HL := hid hlen
    clear hlen
    go_enter Try.func52, Try.ntmps52
    go_wp2_with fail
    go_loopw [13] (fun i wr => ∃ k n : Nat, k ≤ xs.length ∧ wr = w.drewN n ∧ i = .int .i64 k ∧ Hid (xs.take k = ys.take k)) (fun i _ => xs.length - (intOf i).toNat)
    case atStart => exact ⟨0, 0, Nat.zero_le _, rfl, rfl, by simp [Hid]⟩
    case round =>
      obtain ⟨k, nd, hk, rfl, rfl, hrel⟩ := hrel
      by_cases hlt : k < xs.length
      · obtain ⟨b1, o1, x, rfl, hc, hx⟩ := hs.int hlt
        obtain ⟨b2, o2, y, rfl, hd, hy⟩ := ht.int (k := k) (by have := HL.out; omega)
        have HX := hid hx
        have HY := hid hy
        have hi1 : (k : Int) < xs.length := by omega
        have hi2 : (k : Int) < ys.length := by have := HL.out; omega
        clear hx hy hs ht
        go_wp2_with fail
        go_quiet (fail)
        go_wp2_with fail
        · have hne : (x != y) = true := by assumption
          go_ret
          exact ⟨by rw [← HR.out, eqI_at HX.out HY.out (by simpa using hne)]; rfl, _, by first | rfl | exact World.drewN_drewN ..⟩
        · have he : (x != y) = false := by assumption
          have he' : x = y := by simpa using he
          go_roundw
          case rel => exact ⟨k + 1, _, by omega, (by first | rfl | exact World.drewN_drewN ..), by go_num, take_eq_succ hrel HX.out (he' ▸ HY.out)⟩
          case measure => simp [intOf]; omega
      · go_wp2_with fail
        go_ret
        exact ⟨by rw [← HR.out, eqI_all hlt HL.out hrel]; rfl, _, by first | rfl | exact World.drewN_drewN ..⟩
  · have hb1 : ((xs.length : Int) != ys.length) = true := by simp; omega
    have HL := hid hlen
    clear hlen
    go_enter Try.func52, Try.ntmps52
    go_wp2_with fail
    go_ret
    exact ⟨by rw [← HR.out, eqI_len HL.out]; rfl, 0, rfl⟩

set_option maxHeartbeats 400000 in
theorem cnf_Equal1 (a b : Option Addr) (xs ys : List Int) (la ca lb cb : Nat) (r : Bool) (w : World) (hr : eqI xs ys = r) (hla : la = xs.length) (hlb : lb = ys.length) (hs : SlV w a (ints xs)) (ht : SlV w b (ints ys)) (hl : xs.length ≤ 9223372036854775807) :
    Calls Try.prog 51 #[.slice a la ca, .slice b lb cb] w fun e w' => e = .returned (.bool r) ∧ ∃ n, w' = w.drewN n := by
  subst hla; subst hlb
  have HC := hid (slices_Equal a b xs ys _ ca _ cb r w hr rfl rfl hs ht hl)
  clear hr hs ht
  go_enter Try.func51, Try.ntmps51
  go_wp2_with fail
  refine HC.out.mono ?_
  rintro e w' ⟨rfl, n, rfl⟩
  go_wp2_with fail
  go_ret
  exact ⟨rfl, n, rfl⟩

set_option maxHeartbeats 1000000 in
theorem slices_EqualFunc (a b : Option Addr) (f g : List (List Int)) (la ca lb cb : Nat) (r : Bool) (w : World) (hr : eqR f g = r) (hla : la = f.length) (hlb : lb = g.length) (hf : FOk f) (hg : FOk g) (hs : Rws w a f) (ht : Rws w b g) (hl : f.length ≤ 9223372036854775807) :
    Calls Try.prog 50 #[.slice a la ca, .slice b lb cb, .func (.func 51) #[] #[]] w fun e w' => e = .returned (.bool r) ∧ ∃ n, w' = w.drewN n := by
  subst hla; subst hlb
  have HR := hid hr
  have HF := hid hf
  have HG := hid hg
  have HS := hid hs
  have HT := hid ht
  clear hr hf hg hs ht
  by_cases hlen : f.length = g.length
  · have hb1 : ((f.length : Int) != g.length) = false := by simp [hlen]
    have HL := hid hlen
    clear hlen
    go_enter Try.func50, Try.ntmps50
    go_wp2_with fail
    go_loopw [17] (fun i wr => ∃ k n : Nat, k ≤ f.length ∧ wr = w.drewN n ∧ i = .int .i64 k ∧ Hid (f.take k = g.take k)) (fun i _ => f.length - (intOf i).toNat)
    case atStart => exact ⟨0, 0, Nat.zero_le _, rfl, rfl, by simp [Hid]⟩
    case round =>
      obtain ⟨k, nd, hk, rfl, rfl, hrel⟩ := hrel
      by_cases hlt : k < f.length
      · obtain ⟨b1, o1, c1, a1, cc1, rfl, hcell, hsl, hc1, hx1, hl1, -, -⟩ := HS.out.row HF.out hlt
        obtain ⟨b2, o2, c2, a2, cc2, rfl, hcell2, hsl2, hc2, hx2, hl2, -, -⟩ := HT.out.row HG.out (k := k) (by have := HL.out; omega)
        have HC1 := hid hc1
        have HC2 := hid hc2
        have HS1 := hid hsl
        have HS2 := hid hsl2
        have hi1 : (k : Int) < f.length := by omega
        have hi2 : (k : Int) < g.length := by have := HL.out; omega
        clear hc1 hc2 hsl hsl2 hx1 hx2
        cases he : eqI c1 c2 with
        | true =>
          have HE := hid he
          clear he
          go_wp2_with fail
          refine (cnf_Equal1 a1 a2 c1 c2 _ cc1 _ cc2 true _ HE.out rfl rfl (HS1.out.drewN nd) (HS2.out.drewN nd) hl1).mono ?_
          rintro e w' ⟨rfl, n2, rfl⟩
          go_wp2_with fail
          go_roundw
          case rel => exact ⟨k + 1, _, by omega, (by first | rfl | exact World.drewN_drewN ..), by go_num, take_eq_succ hrel HC1.out ((eqI_true HE.out) ▸ HC2.out)⟩
          case measure => simp [intOf]; omega
        | false =>
          have HE := hid he
          clear he
          go_wp2_with fail
          refine (cnf_Equal1 a1 a2 c1 c2 _ cc1 _ cc2 false _ HE.out rfl rfl (HS1.out.drewN nd) (HS2.out.drewN nd) hl1).mono ?_
          rintro e w' ⟨rfl, n2, rfl⟩
          go_wp2_with fail
          go_ret
          exact ⟨by rw [← HR.out, eqR_at HC1.out HC2.out HE.out]; rfl, _, by first | rfl | exact World.drewN_drewN ..⟩
      · go_wp2_with fail
        go_ret
        exact ⟨by rw [← HR.out, eqR_all hlt HL.out hrel]; rfl, _, by first | rfl | exact World.drewN_drewN ..⟩
  · have hb1 : ((f.length : Int) != g.length) = true := by simp; omega
    have HL := hid hlen
    clear hlen
    go_enter Try.func50, Try.ntmps50
    go_wp2_with fail
    go_ret
    exact ⟨by rw [← HR.out, eqR_len HL.out]; rfl, 0, rfl⟩

set_option maxHeartbeats 1000000 in
theorem kit_EqualLists (a b : Option Addr) (f g : List (List Int)) (la ca lb cb : Nat) (r : Bool) (w : World) (hr : eqR f g = r) (hla : la = f.length) (hlb : lb = g.length) (hf : FOk f) (hg : FOk g) (hs : Rws w a f) (ht : Rws w b g) (hl : f.length ≤ 9223372036854775807) :
    Calls Try.prog 53 #[.slice a la ca, .slice b lb cb] w fun e w' => e = .returned (.bool r) ∧ ∃ n, w' = w.drewN n := by
  subst hla; subst hlb
  have HR := hid hr
  have HF := hid hf
  have HG := hid hg
  have HS := hid hs
  have HT := hid ht
  clear hr hf hg hs ht
  by_cases hlen : f.length = g.length
  · have hb1 : ((f.length : Int) != g.length) = false := by simp [hlen]
    have HL := hid hlen
    clear hlen
    go_enter Try.func53, Try.ntmps53
    go_wp2_with fail
    go_loopw [5] (fun i wr => ∃ k n : Nat, k ≤ f.length ∧ wr = w.drewN n ∧ i = .int .i64 k ∧ Hid (f.take k = g.take k)) (fun i _ => f.length - (intOf i).toNat)
    case atStart => exact ⟨0, 0, Nat.zero_le _, rfl, rfl, by simp [Hid]⟩
    case round =>
      obtain ⟨k, nd, hk, rfl, rfl, hrel⟩ := hrel
      by_cases hlt : k < f.length
      · obtain ⟨b1, o1, c1, a1, cc1, rfl, hcell, hsl, hc1, hx1, hl1, -, -⟩ := HS.out.row HF.out hlt
        obtain ⟨b2, o2, c2, a2, cc2, rfl, hcell2, hsl2, hc2, hx2, hl2, -, -⟩ := HT.out.row HG.out (k := k) (by have := HL.out; omega)
        have HC1 := hid hc1
        have HC2 := hid hc2
        have HS1 := hid hsl
        have HS2 := hid hsl2
        have hi1 : (k : Int) < f.length := by omega
        have hi2 : (k : Int) < g.length := by have := HL.out; omega
        clear hc1 hc2 hsl hsl2 hx1 hx2
        cases he : eqI c1 c2 with
        | true =>
          have HE := hid he
          clear he
          go_wp2_with fail
          go_quiet ((go_at_call 14; first | exact quiet_drew2 (kit_EqualIntsR a1 a2 c1 c2 _ cc1 _ cc2 true _ HE.out rfl rfl (HS1.out.drewN _) (HS2.out.drewN _) hl1) | exact quiet_drew (kit_EqualIntsR a1 a2 c1 c2 _ cc1 _ cc2 true _ HE.out rfl rfl (HS1.out.drewN _) (HS2.out.drewN _) hl1)))
          go_wp2_with fail
          go_roundw
          case rel => exact ⟨k + 1, _, by omega, (by first | rfl | exact World.drewN_drewN ..), by go_num, take_eq_succ hrel HC1.out ((eqI_true HE.out) ▸ HC2.out)⟩
          case measure => simp [intOf]; omega
        | false =>
          have HE := hid he
          clear he
          go_wp2_with fail
          go_quiet ((go_at_call 14; first | exact quiet_drew2 (kit_EqualIntsR a1 a2 c1 c2 _ cc1 _ cc2 false _ HE.out rfl rfl (HS1.out.drewN _) (HS2.out.drewN _) hl1) | exact quiet_drew (kit_EqualIntsR a1 a2 c1 c2 _ cc1 _ cc2 false _ HE.out rfl rfl (HS1.out.drewN _) (HS2.out.drewN _) hl1)))
          go_wp2_with fail
          go_ret
          exact ⟨by rw [← HR.out, eqR_at HC1.out HC2.out HE.out]; rfl, _, by first | rfl | exact World.drewN_drewN ..⟩
      · go_wp2_with fail
        go_ret
        exact ⟨by rw [← HR.out, eqR_all hlt HL.out hrel]; rfl, _, by first | rfl | exact World.drewN_drewN ..⟩
  · have hb1 : ((f.length : Int) != g.length) = true := by simp; omega
    have HL := hid hlen
    clear hlen
    go_enter Try.func53, Try.ntmps53
    go_wp2_with fail
    go_ret
    exact ⟨by rw [← HR.out, eqR_len HL.out]; rfl, 0, rfl⟩

/-- The two boxes of two structs. -/
theorem below_2 (w : World) (o o2 : Obj) : Below w.heap.size w ((w.alloc o).alloc o2) := below_al (box_below _ _) (by simp only [size_al]; omega) _

set_option maxHeartbeats 1000000 in
theorem cnf_Equal (n : Int) (a : Option Addr) (f : List (List Int)) (la ca : Nat) (k : Int) (b : Option Addr) (g : List (List Int)) (lb cb : Nat) (r : Bool) (w : World) (hr : ((n == k) && eqR f g) = r) (hla : la = f.length) (hlb : lb = g.length) (hf : FOk f) (hg : FOk g) (hs : Rws w a f) (ht : Rws w b g) (hl : f.length ≤ 9223372036854775807) :
    Calls Try.prog 20 #[.agg #[.int .i64 n, .slice a la ca], .agg #[.int .i64 k, .slice b lb cb]] w fun e w' => e = .returned (.bool r) ∧ Below w.heap.size w w' := by
  subst hla; subst hlb
  have HF := hid hf
  have HG := hid hg
  have HB := hid (below_2 w (fbox n a f.length ca) (fbox k b g.length cb))
  have HS := hid (hs.below HB.out)
  have HT := hid (ht.below HB.out)
  clear hf hg hs ht
  cases hn : (n == k) with
  | false =>
    rw [hn] at hr
    have HR : Hid (r = false) := hr.symm
    clear hr
    go_enter Try.func20, Try.ntmps20
    go_wp2_with fail
    go_ret
    exact ⟨by rw [HR.out]; rfl, HB.out⟩
  | true =>
    rw [hn] at hr
    have hr' : eqR f g = r := by simpa using hr
    have HR := hid hr'
    clear hr hr'
    go_enter Try.func20, Try.ntmps20
    go_wp2_with fail
    refine (slices_EqualFunc a b f g _ ca _ cb r _ HR.out rfl rfl HF.out HG.out HS.out HT.out hl).mono ?_
    rintro e w' ⟨rfl, n2, rfl⟩
    go_wp2_with fail
    go_ret
    exact ⟨rfl, below_dr HB.out _⟩

set_option maxHeartbeats 1000000 in
theorem kit_EqualFormula (n : Int) (a : Option Addr) (f : List (List Int)) (la ca : Nat) (k : Int) (b : Option Addr) (g : List (List Int)) (lb cb : Nat) (r : Bool) (w : World) (hr : ((n == k) && eqR f g) = r) (hla : la = f.length) (hlb : lb = g.length) (hf : FOk f) (hg : FOk g) (hs : Rws w a f) (ht : Rws w b g) (hl : f.length ≤ 9223372036854775807) :
    Calls Try.prog 24 #[.agg #[.int .i64 n, .slice a la ca], .agg #[.int .i64 k, .slice b lb cb]] w fun e w' => e = .returned (.bool r) ∧ Below w.heap.size w w' := by
  subst hla; subst hlb
  have HF := hid hf
  have HG := hid hg
  have HB := hid (below_2 w (fbox n a f.length ca) (fbox k b g.length cb))
  have HS := hid (hs.below HB.out)
  have HT := hid (ht.below HB.out)
  clear hf hg hs ht
  cases hn : (n == k) with
  | false =>
    rw [hn] at hr
    have HR : Hid (r = false) := hr.symm
    clear hr
    go_enter Try.func24, Try.ntmps24
    go_wp2_with fail
    go_ret
    exact ⟨by rw [HR.out]; rfl, HB.out⟩
  | true =>
    rw [hn] at hr
    have hr' : eqR f g = r := by simpa using hr
    have HR := hid hr'
    clear hr hr'
    go_enter Try.func24, Try.ntmps24
    go_wp2_with fail
    refine (kit_EqualLists a b f g _ ca _ cb r _ HR.out rfl rfl HF.out HG.out HS.out HT.out hl).mono ?_
    rintro e w' ⟨rfl, n2, rfl⟩
    go_wp2_with fail
    go_ret
    exact ⟨rfl, below_dr HB.out _⟩

end Go.Proofs.Ytacmfiikdbekbaa
