/- The contracts of the reference's First of layer 2, and of weepholelaw02.three and known. -/
import Derived.Test.YtaekcejenagbgaaCnfB
namespace Go.Proofs.Ytaekcejenagbgaa
open Go.RowKit

theorem ref02_CheckR (n : Int) (a : Option Addr) (f : List (List Int)) (m c : Nat) (e : Int) (w : World) (he : cnfCheck n f = e) (hm : m = f.length) (hf : FOk f) (hr : Rws w a f) (hl : f.length ≤ 9223372036854775807) :
    Calls Try.prog 23 #[.agg #[.int .i64 n, .slice a m c]] w fun x w' => x = .returned (.int .i64 e) ∧ ∃ k, w' = (w.alloc (fbox n a m c)).drewN k := he ▸ ref02_Check n a f m c w hm hf hr hl

set_option maxHeartbeats 1000000 in
theorem ref02_First (n : Int) (a : Option Addr) (f : List (List Int)) (lf c : Nat) (am : Option Addr) (m : List Bool) (lm cm : Nat) (w : World) (hlf : lf = f.length) (hlm : lm = m.length) (hf : FOk f) (hr : Rws w a f) (hm : SlV w am (bools m))
    (hl : f.length ≤ 9223372036854775807) (hl2 : m.length ≤ 9223372036854775807) :
    Calls Try.prog 25 #[.agg #[.int .i64 n, .slice a lf c], .slice am lm cm] w fun x w' =>
      x = .returned (.tuple #[.int .i64 (cnfFirst n f m).1, .int .i64 (cnfFirst n f m).2]) ∧ Below w.heap.size w w' := by
  subst hlf
  subst hlm
  have HF := hid hf
  obtain ⟨e1, he1⟩ : ∃ e1, cnfCheck n f = e1 := ⟨_, rfl⟩
  have HE := hid he1
  have HR1 := hid (hr.below (box_below w (fbox n a f.length c)))
  have hb2 : Below w.heap.size w ((w.alloc (fbox n a f.length c)).alloc (fbox n a f.length c)) := below_al (box_below _ _) (by simp only [size_al]; omega) _
  have HR2 := hid (hr.below hb2)
  have HM2 := hid (hm.below hb2)
  have HB2 := hid hb2
  clear hf hr hm he1 hb2
  by_cases hz : e1 = 0
  · have hz' : (e1 != 0) = false := by simp [hz]
    have HZ : Hid (cnfCheck n f = 0) := by rw [HE.out, hz]; rfl
    clear hz
    cases hlen : ((m.length : Int) != n) with
    | true =>
      have HG := hid (cnfFirst_arg HZ.out hlen)
      go_enter Try.func25, Try.ntmps25
      go_wp2_with (go_at_call 23; refine (ref02_CheckR n _ f _ _ _ _ HE.out rfl HF.out HR1.out hl).mono ?_; rintro e w' ⟨rfl, nd, rfl⟩)
      go_ret2
      exact ⟨by rw [HG.out]; rfl, below_dr HB2.out _⟩
    | false =>
      have HG := hid (cnfFirst_idx HZ.out hlen)
      go_enter Try.func25, Try.ntmps25
      go_wp2_with (go_at_call 23; refine (ref02_CheckR n _ f _ _ _ _ HE.out rfl HF.out HR1.out hl).mono ?_; rintro e w' ⟨rfl, nd, rfl⟩)
      go_loopw [7] (fun i wr => ∃ k nd : Nat, k ≤ f.length ∧ wr = ((w.alloc (fbox n a f.length c)).alloc (fbox n a f.length c)).drewN nd ∧ i = .int .i64 k ∧ Hid ((f.take k).any (fun c => !holdsB m c) = false)) (fun i _ => f.length - (intOf i).toNat)
      case atStart => exact ⟨0, _, Nat.zero_le _, rfl, rfl, rfl⟩
      case round =>
        clear nd
        obtain ⟨k, nd, hk, rfl, rfl, hrel⟩ := hrel
        by_cases hlt : k < f.length
        · obtain ⟨b, off, c1, a1, cc1, rfl, hcell, hsl, hc1, hx1, hl1, -, -⟩ := HR2.out.row HF.out hlt
          have HC := hid hc1
          have HS := hid hsl
          have HX := hid hx1
          obtain ⟨r1, hr1⟩ : ∃ r1, holdsB m c1 = r1 := ⟨_, rfl⟩
          have HH := hid hr1
          clear hc1 hsl hx1 hr1
          cases r1 with
          | true =>
            go_wp2_with (go_at_call 39; refine (ref01_HoldsR _ m _ _ _ c1 _ _ _ _ HH.out rfl rfl (HM2.out.drewN nd) HX.out (HS.out.drewN nd) hl1 hl2).mono ?_; rintro e w' ⟨rfl, nd2, rfl⟩)
            go_roundw
            case rel => exact ⟨k + 1, _, by omega, (by first | rfl | exact World.drewN_drewN ..), by go_num, take_any_succ HC.out hrel (by simp [HH.out])⟩
            case measure => simp [intOf]; omega
          | false =>
            have HI := hid (firstIdx_at HC.out hrel HH.out)
            go_wp2_with (go_at_call 39; refine (ref01_HoldsR _ m _ _ _ c1 _ _ _ _ HH.out rfl rfl (HM2.out.drewN nd) HX.out (HS.out.drewN nd) hl1 hl2).mono ?_; rintro e w' ⟨rfl, nd2, rfl⟩)
            go_ret2
            exact ⟨by rw [HG.out, HI.out]; rfl, by first | exact below_dr HB2.out _ | exact below_dr (below_dr HB2.out _) _⟩
        · have HI := hid (firstIdx_none hlt hrel)
          go_wp2_with fail
          go_ret2
          exact ⟨by rw [HG.out, HI.out]; rfl, below_dr HB2.out _⟩
  · have hz' : (e1 != 0) = true := by simp [hz]
    have HG := hid (cnfFirst_err (m := m) HE.out hz')
    clear hz
    go_enter Try.func25, Try.ntmps25
    go_wp2_with (go_at_call 23; refine (ref02_CheckR n _ f _ _ _ _ HE.out rfl HF.out HR1.out hl).mono ?_; rintro e w' ⟨rfl, nd, rfl⟩)
    go_ret2
    exact ⟨by rw [HG.out]; rfl, below_dr HB2.out _⟩

/-- The formula of weepholelaw02.three. -/
def threeF : List (List Int) := [[1, 2], [-1, 3], [-2, -3]]

set_option maxHeartbeats 1000000 in
theorem law02_three (w : World) :
    Calls Try.prog 41 #[] w fun e w' => e = .returned (.agg #[.int .i64 3, .slice (some ⟨w.heap.size + 4, 0, none⟩) 3 3]) ∧ Below w.heap.size w w' ∧ w'.heap.size = w.heap.size + 5 ∧
      w'.heap[w.heap.size + 1]? = some (.cells #[.int .i64 1, .int .i64 2] 3) ∧ w'.heap[w.heap.size + 2]? = some (.cells #[.int .i64 (-1), .int .i64 3] 3) ∧ w'.heap[w.heap.size + 3]? = some (.cells #[.int .i64 (-2), .int .i64 (-3)] 3) ∧
      w'.heap[w.heap.size + 4]? = some (.cells #[.slice (some ⟨w.heap.size + 1, 0, none⟩) 2 2, .slice (some ⟨w.heap.size + 2, 0, none⟩) 2 2, .slice (some ⟨w.heap.size + 3, 0, none⟩) 2 2] 40) := by
  go_enter Try.func41, Try.ntmps41
  go_wp2_with fail
  refine bodyPost_ret (v := .agg #[.int .i64 3, .slice (some ⟨w.heap.size + 4, 0, none⟩) 3 3]) (by simp [results, Try.results41, go_sem]) rfl ⟨rfl, ?_, ?_, ?_, ?_, ?_, ?_⟩
  · exact below_al (below_al (below_al (below_al (box_below _ _) (by simp only [size_al]; omega) _) (by simp only [size_al]; omega) _) (by simp only [size_al]; omega) _) (by simp only [size_al]; omega) _
  · simp only [size_al]
  all_goals simp [heap_al, Array.getElem_push]

theorem fok_three : FOk threeF := by
  intro c hc
  simp [threeF] at hc
  rcases hc with rfl | rfl | rfl <;> simp [I64]

theorem sli_of_block {w : World} {b n : Nat} {e : TypeId} {xs : List Int} {m : Nat × Nat} (h : w.heap[b]? = some (.cells (ints xs).toArray e m)) (hn : n = xs.length) : SlI w (.slice (some ⟨b, 0, none⟩) n n) xs :=
  ⟨some ⟨b, 0, none⟩, n, by rw [hn], by omega, nofun, slv_at h⟩

theorem law02_threeR (w : World) :
    Calls Try.prog 41 #[] w fun e w' => ∃ a c, e = .returned (.agg #[.int .i64 3, .slice a 3 c]) ∧ Rws w' a threeF ∧ Below w.heap.size w w' := by
  refine (law02_three w).mono ?_
  rintro e w' ⟨rfl, hb, hs, h1, h2, h3, h4⟩
  refine ⟨_, _, rfl, ?_, hb⟩
  intro j c hj
  have hcell := slv_at (vs := [.slice (some ⟨w.heap.size + 1, 0, none⟩) 2 2, .slice (some ⟨w.heap.size + 2, 0, none⟩) 2 2, .slice (some ⟨w.heap.size + 3, 0, none⟩) 2 2]) h4
  match j, hj with
  | 0, hj => simp [threeF] at hj; subst hj; obtain ⟨b, off, e1, e2⟩ := hcell 0 _ rfl; exact ⟨b, off, _, e1, e2, sli_of_block h1 rfl⟩
  | 1, hj => simp [threeF] at hj; subst hj; obtain ⟨b, off, e1, e2⟩ := hcell 1 _ rfl; exact ⟨b, off, _, e1, e2, sli_of_block h2 rfl⟩
  | 2, hj => simp [threeF] at hj; subst hj; obtain ⟨b, off, e1, e2⟩ := hcell 2 _ rfl; exact ⟨b, off, _, e1, e2, sli_of_block h3 rfl⟩
  | j + 3, hj => simp [threeF] at hj

theorem cnf_FirstR (n : Int) (a : Option Addr) (f : List (List Int)) (lf c : Nat) (am : Option Addr) (m : List Bool) (lm cm : Nat) (i e : Int) (w : World) (hr0 : cnfFirst n f m = (i, e)) (hlf : lf = f.length) (hlm : lm = m.length) (hf : FOk f) (hr : Rws w a f) (hm : SlV w am (bools m))
    (hl : f.length ≤ 9223372036854775807) (hl2 : m.length ≤ 9223372036854775807) :
    Calls Try.prog 24 #[.agg #[.int .i64 n, .slice a lf c], .slice am lm cm] w fun x w' =>
      x = .returned (.tuple #[.int .i64 i, .int .i64 e]) ∧ Below w.heap.size w w' := by
  have := cnf_First n a f lf c am m lm cm w hlf hlm hf hr hm hl hl2
  rwa [hr0] at this

theorem ref02_FirstR (n : Int) (a : Option Addr) (f : List (List Int)) (lf c : Nat) (am : Option Addr) (m : List Bool) (lm cm : Nat) (i e : Int) (w : World) (hr0 : cnfFirst n f m = (i, e)) (hlf : lf = f.length) (hlm : lm = m.length) (hf : FOk f) (hr : Rws w a f) (hm : SlV w am (bools m))
    (hl : f.length ≤ 9223372036854775807) (hl2 : m.length ≤ 9223372036854775807) :
    Calls Try.prog 25 #[.agg #[.int .i64 n, .slice a lf c], .slice am lm cm] w fun x w' =>
      x = .returned (.tuple #[.int .i64 i, .int .i64 e]) ∧ Below w.heap.size w w' := by
  have := ref02_First n a f lf c am m lm cm w hlf hlm hf hr hm hl hl2
  rwa [hr0] at this

set_option maxHeartbeats 1000000 in
theorem law02_known (w : World) :
    Calls Try.prog 21 #[] w fun e w' => e = .returned (.bool true) ∧ Below w.heap.size w w' := by
  go_enter Try.func21, Try.ntmps21
  go_wp2_with fail
  refine (law02_threeR w).mono ?_
  rintro e w1 ⟨a1, c1, rfl, hr1, hb1⟩
  have HR1 := hid hr1
  clear hr1
  go_wp2_with fail
  refine (cnf_FirstR 3 _ threeF _ _ _ [true, false, true] _ _ (-1) 0 _ (by decide) rfl rfl fok_three (HR1.out.below (box_below _ _)) (slv_at (e := 4) (m := (0, 0)) (by simp [heap_al, bools])) (by decide) (by decide)).mono ?_
  rintro e w2 ⟨rfl, hb2⟩
  have hB2 : Below w.heap.size w w2 := (below_al hb1 hb1.size _).trans (hb2.mono (by have := hb1.size; simp only [size_al]; omega))
  clear hb1 hb2 HR1
  go_wp2_with fail
  refine (law02_threeR _).mono ?_
  rintro e w3 ⟨a3, c3, rfl, hr3, hb3⟩
  have HR3 := hid hr3
  clear hr3
  go_wp2_with fail
  refine (cnf_CheckR 3 _ threeF _ _ 0 _ (by decide) rfl fok_three HR3.out (by decide)).mono ?_
  rintro e w4 ⟨rfl, rfl⟩
  go_wp2_with fail
  go_ret
  exact ⟨rfl, below_al (hB2.trans (hb3.mono hB2.size)) (Nat.le_trans hB2.size hb3.size) _⟩

end Go.Proofs.Ytaekcejenagbgaa
