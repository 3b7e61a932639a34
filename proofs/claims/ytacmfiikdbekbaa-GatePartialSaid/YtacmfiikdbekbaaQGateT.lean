/- The contracts of the reference's place, sign, Is and open of layer 15. -/
import Derived.Test.YtacmfiikdbekbaaQPDec
import Derived.Test.YtacmfiikdbekbaaQ4

namespace Go.Proofs.Ytacmfiikdbekbaa.Ord
open Go.RowKit Go.Conc

attribute [local go_sem ↓] Go.wp_at_zero Go.wp_at_succ

set_option maxHeartbeats 1000000 in
theorem ref15_place (w : World) (a : Int) (n : Nat) (ha : LitOk n a) (hn : n ≤ 1048576) : Calls Try.prog 55 #[.int .i64 a] w fun e w' => e = .returned (.int .i64 (pl a : Nat)) ∧ w = w' := by
  unfold LitOk at ha
  obtain ⟨p, hp⟩ : ∃ p, pl a = p := ⟨_, rfl⟩
  rw [hp]
  unfold pl at hp
  by_cases h0 : 0 < a
  · rw [if_pos h0] at hp
    have hw : IntKind.i64.wrap (2 * a) = (p : Int) := by rw [IntWalk.i64_in _ (by omega)]; omega
    have d1 : decide (0 < a) = true := decide_eq_true h0
    clear ha hp h0
    go_enter Try.func55, Try.ntmps55
    go_wp2_with fail
    go_ret
    exact ⟨rfl, rfl⟩
  · rw [if_neg h0] at hp
    have hw1 : IntKind.i64.wrap (-2 * a) = -2 * a := IntWalk.i64_in _ (by omega)
    have hw : IntKind.i64.wrap (-2 * a + 1) = (p : Int) := by rw [IntWalk.i64_in _ (by omega)]; omega
    have d1 : decide (0 < a) = false := decide_eq_false h0
    clear ha hp h0
    go_enter Try.func55, Try.ntmps55
    go_wp2_with fail
    go_ret
    exact ⟨rfl, rfl⟩

set_option maxHeartbeats 1000000 in
theorem ref15_sign (w : World) (a : Int) : Calls Try.prog 57 #[.int .i64 a] w fun e w' => e = .returned (.int .i8 (sg a)) ∧ w = w' := by
  by_cases h0 : 0 < a
  · have d1 : decide (0 < a) = true := decide_eq_true h0
    have e : sg a = 1 := by unfold sg; rw [if_pos h0]
    rw [e]
    clear h0
    go_enter Try.func57, Try.ntmps57
    go_wp2_with fail
    go_ret
    exact ⟨rfl, rfl⟩
  · have d1 : decide (0 < a) = false := decide_eq_false h0
    have e : sg a = -1 := by unfold sg; rw [if_neg h0]
    rw [e]
    clear h0
    go_enter Try.func57, Try.ntmps57
    go_wp2_with fail
    go_ret
    exact ⟨rfl, rfl⟩

def i8s (k : List Int) : List Value := k.map (Value.int .i8)

set_option maxRecDepth 100000 in
set_option maxHeartbeats 2000000 in
theorem ref15_Is (w : World) (n : Nat) (ak : Option Addr) (mk ck : Nat) (k : List Int) (a : Int) (q v : Bool) (hm : mk = n + 1) (hlen : k.length = n + 1) (hk : kOk k) (ha : LitOk n a) (hn : n ≤ 1048576) (hs : SlV w ak (i8s k))
    (hq : decide (k.getD a.natAbs 0 = 0) = !q) (hv : decide (kT k a) = v) :
    Calls Try.prog 34 #[.slice ak mk ck, .int .i64 a] w fun e w' => e = .returned (.tuple #[.bool q, .bool v]) ∧ ∃ nd, w' = w.drewN nd := by
  obtain ⟨j, hj⟩ : ∃ j, a.natAbs = j := ⟨_, rfl⟩
  unfold LitOk at ha
  have hj1 : j < n + 1 := by omega
  have hmx : ∀ (ts : Array TypeId) (t : TypeId) (w : World), (Builtin.max_ ts t #[.int .i64 a, .int .i64 (-a)]).run Try.prog w = .ok (.int .i64 j) w := fun ts t w => by
    rw [run_max_int2]
    have : (if -a > a then -a else a) = (j : Int) := by split <;> omega
    rw [this]
  have hw1 : IntKind.i64.wrap (-a) = -a := IntWalk.i64_in _ (by omega)
  obtain ⟨bo, oo, x, rfl, hcx, hxj⟩ := hs.intK (k := .i8) (j := j) (by rw [hlen]; exact hj1)
  have hget : k.getD j 0 = x := by rw [List.getD_eq_getElem?_getD, hxj]; rfl
  have d0 : (a == 0) = false := by rw [beq_eq_false_iff_ne]; exact ha.1
  have d1 : decide ((n : Int) + 1 ≤ (j : Int)) = false := decide_eq_false (by omega)
  have hjm : (j : Int) < (n : Int) + 1 := by omega
  have hnm : ((n + 1 : Nat) : Int) = (n : Int) + 1 := by omega
  rw [hj, hget] at hq
  subst hm
  by_cases hx0 : x = 0
  · subst hx0
    have hqf : q = false := by simpa using hq
    have hvf : v = false := by
      rw [← hv]
      refine decide_eq_false ((is_known hk ha.1).1 ?_).1
      rw [hj, hget]
    subst hqf hvf
    clear hq hv hget hxj hs hk hlen ha hj
    go_enter Try.func34, Try.ntmps34
    go_wp2_with fail
    go_ret2
    exact ⟨rfl, 0, rfl⟩
  · have hqf : q = true := by
      have : decide (x = 0) = false := decide_eq_false hx0
      rw [this] at hq
      simpa using hq.symm
    have hvv : (decide (0 < x) == decide (0 < a)) = v := by
      rw [← hv]
      have h5 := is_value hk (a := a) (by rw [hj, hget]; exact hx0)
      rwa [hj, hget] at h5
    have d2 : (x == 0) = false := by rw [beq_eq_false_iff_ne]; exact hx0
    obtain ⟨q1, hq1⟩ : ∃ q1, decide (0 < x) = q1 := ⟨_, rfl⟩
    obtain ⟨q2, hq2⟩ : ∃ q2, decide (0 < a) = q2 := ⟨_, rfl⟩
    rw [hq1, hq2] at hvv
    subst hqf
    clear hq hv hget hxj hs hk hlen ha hj hx0
    go_enter Try.func34, Try.ntmps34
    go_wp2_with fail
    go_quiet (fail)
    go_wp2_with fail
    go_ret2
    exact ⟨rfl, _, rfl⟩

set_option maxRecDepth 100000 in
set_option maxHeartbeats 4000000 in
theorem ref15_open (w : World) (n : Nat) (ak ac : Option Addr) (mk ck mc cc : Nat) (k c : List Int) (l : Int) (m : Nat) (hm : mk = n + 1) (hmc : mc = c.length) (hlen : k.length = n + 1) (hk : kOk k) (hc : ∀ x ∈ c, LitOk n x) (hcl : c.length ≤ 1048576) (hn : n ≤ 1048576) (hs : SlV w ak (i8s k)) (hsc : SlV w ac (ints c)) (hO : openV k c 0 0 = (l, m)) :
    Calls Try.prog 56 #[.slice ak mk ck, .slice ac mc cc] w fun e w' => e = .returned (.tuple #[.int .i64 l, .int .i64 m]) ∧ ∃ nd, w' = w.drewN nd := by
  subst hmc
  have HS := hid hs
  have HSC := hid hsc
  have HLEN := hid hlen
  have HK := hid hk
  have HC := hid hc
  have HO := hid hO
  have HM := hid hm
  clear hs hsc hlen hk hc hO hm
  go_enter Try.func56, Try.ntmps56
  go_wp2_with fail
  go_loopw [4, 5, 6] (fun s4 s5 s6 wr => ∃ (x0 : Int) (m0 i nd : Nat), s4 = .int .i64 x0 ∧ s5 = .int .i64 m0 ∧ s6 = .int .i64 i ∧ i ≤ c.length ∧ m0 ≤ 1 ∧ Hid (openV k (c.drop i) x0 m0 = (l, m)) ∧ wr = w.drewN nd) (fun _ _ s6 _ => (c.length - (intOf s6)).toNat)
  case atStart => exact ⟨0, 0, 0, 0, rfl, rfl, rfl, Nat.zero_le _, by omega, hid (by rw [List.drop_zero]; exact HO.out), rfl⟩
  case round =>
    obtain ⟨x0, m0, i, nd, rfl, rfl, rfl, hi, hm1, HD, rfl⟩ := hrel
    by_cases hlt : i < c.length
    · have hlt2 : (i : Int) < c.length := by omega
      have hwi : IntKind.i64.wrap ((i : Int) + 1) = (i : Int) + 1 := IntWalk.i64_in _ (by omega)
      obtain ⟨bo, oo, x, rfl, hcx, hxi⟩ := (HSC.out.drewN nd).int hlt
      have hxk := HC.out x (List.mem_of_getElem? hxi)
      have HE := hid (drop_of hxi)
      obtain ⟨v, hv⟩ : ∃ v, decide (kT k x) = v := ⟨_, rfl⟩
      obtain ⟨q, hq⟩ : ∃ q, decide (k.getD x.natAbs 0 = 0) = !q := ⟨!decide (k.getD x.natAbs 0 = 0), by simp⟩
      have hx0 := hxk.1
      have HQ := hid hq
      have HV := hid hv
      have HXK := hid hxk
      have hko := hid (is_known HK.out hx0)
      clear hxi hq hv hxk
      have hcall := fun (nd : Nat) (a : Option Addr) (h : SlV (w.drewN nd) a (i8s k)) => ref15_Is (w.drewN nd) n a mk ck k x q v HM.out HLEN.out HK.out HXK.out hn h HQ.out HV.out
      have HCALL := hid hcall
      clear hcall
      go_wp2_with fail
      refine (HCALL.out nd ak (HS.out.drewN _)).mono ?_
      rintro e w2 ⟨rfl, nd2, rfl⟩
      rw [show (w.drewN nd).drewN nd2 = w.drewN (nd + nd2) from by rw [World.drewN_drewN]]
      have hcx2 : (w.drewN (nd + nd2)).cell? ⟨bo, oo + i, none⟩ = some (.int .i64 x) := hcx
      clear hcx
      cases v with
      | true =>
        have h1 : kT k x := of_decide_eq_true HV.out
        have hr : l = x ∧ m = 2 := by
          have := HD.out
          rw [HE.out] at this
          unfold openV at this
          rw [if_pos h1] at this
          injection this with e1 e2
          exact ⟨e1.symm, e2.symm⟩
        obtain ⟨rfl, rfl⟩ := hr
        clear h1
        go_wp2_with fail
        go_ret2
        exact ⟨rfl, _, rfl⟩
      | false =>
        have h1 : ¬ kT k x := of_decide_eq_false HV.out
        have hD := HD.out
        rw [HE.out] at hD
        unfold openV at hD
        rw [if_neg h1] at hD
        have hm2 : ((m0 : Int) == 2) = false := by rw [beq_eq_false_iff_ne]; omega
        cases q with
        | true =>
          have h2 : kT k (-x) := by
            by_cases h2 : kT k (-x)
            · exact h2
            · have := hko.out.2 ⟨h1, h2⟩
              have h3 := HQ.out
              rw [decide_eq_true this] at h3
              cases h3
          rw [if_pos h2] at hD
          have HD2 := hid hD
          clear h1 h2 hD hko
          go_wp2_with fail
          go_roundw
          case rel => exact ⟨x0, m0, i + 1, _, rfl, rfl, by simp, hlt, hm1, HD2, rfl⟩
          case measure => simp [intOf]; omega
        | false =>
          have h2 : ¬ kT k (-x) := (hko.out.1 (of_decide_eq_true HQ.out)).2
          rw [if_neg h2] at hD
          by_cases hm0 : m0 = 0
          · subst hm0
            rw [if_pos rfl] at hD
            have HD2 := hid hD
            clear h1 h2 hD hko hm2
            go_wp2_with fail
            go_roundw
            case rel => exact ⟨x, 1, i + 1, _, rfl, rfl, by simp, hlt, by omega, HD2, rfl⟩
            case measure => simp [intOf]; omega
          · have hm01 : m0 = 1 := by omega
            subst hm01
            rw [if_neg hm0] at hD
            by_cases hxl : x = x0
            · rw [if_pos hxl] at hD
              have HD2 := hid hD
              have d5 : (x != x0) = false := by simp [hxl]
              clear h1 h2 hD hko hm0 hm2 hxl
              go_wp2_with fail
              go_roundw
              case rel => exact ⟨x0, 1, i + 1, _, rfl, rfl, by simp, hlt, by omega, HD2, rfl⟩
              case measure => simp [intOf]; omega
            · rw [if_neg hxl] at hD
              have d5 : (x != x0) = true := by simp [bne, hxl]
              injection hD with e1 e2
              subst e1 e2
              clear h1 h2 hko hm0 hm2 hxl
              go_wp2_with fail
              go_ret2
              exact ⟨rfl, _, rfl⟩
    · have HN : l = x0 ∧ m = m0 := by
        have := HD.out
        rw [List.drop_eq_nil_of_le (by omega)] at this
        unfold openV at this
        injection this with e1 e2
        exact ⟨e1.symm, e2.symm⟩
      obtain ⟨rfl, rfl⟩ := HN
      go_wp2_with fail
      go_ret2
      exact ⟨rfl, _, rfl⟩

end Go.Proofs.Ytacmfiikdbekbaa.Ord
