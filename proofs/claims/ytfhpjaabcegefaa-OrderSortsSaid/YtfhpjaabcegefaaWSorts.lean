/- The walk of OrderSorts. -/
import Derived.Test.YtfhpjaabcegefaaPSorts
import Derived.Test.YtfhpjaabcegefaaWOdd
namespace Go.Proofs.Ytfhpjaabcegefaa.Ord
open Go.RowKit

theorem info_bool : (Try.prog.info? 4).map (fun i => (i.zero, i.size, i.bytes)) = some (some (.bool false), 1, 1) := by kernel_rfl

theorem madeFalse (n : Nat) : (madeCells (Value.bool false).cells (n * 1)).toList = bools (List.replicate n false) := by
  simp only [madeCells, Value.cells, Nat.mul_one, Array.toList_map, Array.toList_range, bools]
  refine List.ext_getElem? fun i => ?_
  by_cases hi : i < n
  · simp [hi, Nat.mod_one]
  · simp [hi]

theorem bools_setO (bs : List Bool) (k : Nat) (b : Bool) : (bools bs).set k (.bool b) = bools (bs.set k b) := by simp [bools, List.map_set]

theorem seen_step {n k : Nat} {bs : List Bool} {out : List Int} {x : Int} (h : ∀ v : Int, 1 ≤ v → v ≤ n → bs[v.toNat]? = some (decide (v ∈ out.take k))) (hx : out[k]? = some x) (hr : 1 ≤ x ∧ x ≤ n) :
    ∀ v : Int, 1 ≤ v → v ≤ n → (bs.set x.toNat true)[v.toNat]? = some (decide (v ∈ out.take (k + 1))) := fun v h1 h2 => by
  have hm : v ∈ out.take (k + 1) ↔ v ∈ out.take k ∨ v = x := by rw [List.take_add_one, hx]; simp
  rw [List.getElem?_set]
  by_cases he : x.toNat = v.toNat
  · obtain rfl : v = x := by omega
    have hl : v.toNat < bs.length := by
      have := h v hr.1 hr.2
      exact (List.getElem?_eq_some_iff.1 this).1
    rw [if_pos rfl, if_pos hl, decide_eq_true (hm.2 (Or.inr rfl))]
  · have hvx : ¬ v = x := fun e => he (by rw [e])
    rw [if_neg he, h v h1 h2]
    simp [hm, hvx]

/-- What the loop knows of its round. -/
structure Rd (x0 out : List Int) (k : Nat) (x : Int) : Prop where
  rng : 1 ≤ x ∧ x ≤ x0.length
  fresh : x ∉ out.take k
  prev : ∀ j u, k = j + 1 → out[j]? = some u → (1 ≤ u ∧ u ≤ x0.length) ∧ ∀ y0 y1, x0[(u - 1).toNat]? = some y0 → x0[(x - 1).toNat]? = some y1 → y1 < y0 ∨ (y1 = y0 ∧ u ≤ x)

theorem rd_of (x0 out : List Int) (ho : out = popAll (0 :: x0) (List.replicate x0.length true)) (k : Nat) (x : Int) (h : out[k]? = some x) : Rd x0 out k x := by
  have hp := popAll_pair (0 :: x0) _ (List.replicate x0.length true) rfl
  rw [← ho] at hp
  have hm : ∀ v ∈ out, 1 ≤ v ∧ v ≤ x0.length := fun v hv => by
    rw [ho] at hv
    have := popAll_mem (0 :: x0) _ (List.replicate x0.length true) rfl v hv
    rw [List.length_replicate] at this
    exact ⟨this.1, this.2.1⟩
  obtain ⟨hk, hx⟩ := List.getElem?_eq_some_iff.1 h
  rw [List.pairwise_iff_getElem] at hp
  refine ⟨hm x (List.mem_of_getElem? h), fun hin => ?_, fun j u hkj hu => ?_⟩
  · obtain ⟨i, hi, he⟩ := List.mem_iff_getElem.1 hin
    simp at hi
    rw [List.getElem_take] at he
    exact (hp i k (by omega) hk (by omega)).1 (by rw [hx, he])
  · obtain ⟨hj, hju⟩ := List.getElem?_eq_some_iff.1 hu
    have hmu := hm u (List.mem_of_getElem? hu)
    have hmx := hm x (List.mem_of_getElem? h)
    refine ⟨hmu, fun y0 y1 h0 h1 => ?_⟩
    have hb := (hp j k hj hk (by omega)).2
    rw [hju, hx, nbef_iff] at hb
    have a0 : actv (0 :: x0) u = y0 := by
      unfold actv
      rw [show u.toNat = (u - 1).toNat + 1 by omega, List.getD_eq_getElem?_getD, List.getElem?_cons_succ, h0]; rfl
    have a1 : actv (0 :: x0) x = y1 := by
      unfold actv
      rw [show x.toNat = (x - 1).toNat + 1 by omega, List.getD_eq_getElem?_getD, List.getElem?_cons_succ, h1]; rfl
    rw [a0, a1] at hb
    exact hb

set_option maxRecDepth 100000 in
set_option maxHeartbeats 4000000 in
theorem walk_OrderSorts (v0 : Value) (x0 : List Int) (w : World) (w0 : ArgI .u16 w v0 x0) :
    Calls Try.prog 4 #[v0] w fun e w' => e = .returned (.bool true) ∧ Below w.heap.size w w' := by
  obtain ⟨a0, c0, rfl, hle0, hm0, hn0, hs0, hw0⟩ := w0
  obtain ⟨ib, hbi, hbz0, hbz1, hbz2⟩ := info_parts info_bool
  have HX := hid (u16s hw0)
  have HS := hid hs0
  clear hs0 hw0 hle0 hm0 hn0
  by_cases hl : x0.length ≤ 200
  · have hd0 : decide ((200 : Int) < x0.length) = false := by simp; omega
    go_enter Try.func4, Try.ntmps4
    go_wp2_with fail
    refine (law06_made a0 c0 w.heap.size x0 w _ HS.out HX.out (by omega) (Below.refl _ _) (Nat.le_refl _)).mono ?_
    rintro e w1 ⟨b1, S1, rfl, h1, h2, h3⟩
    have H1 := hid h1
    clear h1 h2 h3
    go_wp2_with fail
    refine (law06_all b1 w.heap.size S1 _ _ w _ H1.out (by simp; omega)).mono ?_
    rintro e w2 ⟨v2, rfl, ho2, h2, hT2⟩
    obtain ⟨out, hout⟩ : ∃ out, out = popAll (0 :: x0) (List.replicate x0.length true) := ⟨_, rfl⟩
    rw [← hout] at ho2
    obtain ⟨a2, c2, rfl⟩ := own_lenV ho2
    have HO2 := hid ho2
    have H2 := hid h2
    have HOUT := hid hout
    have hol : out.length ≤ 200 := by rw [hout, popAll_length _ _ _ rfl, List.countP_replicate]; simp; omega
    have HOL : Hid (out.length = x0.length) := hid (by rw [hout, popAll_length _ _ _ rfl, List.countP_replicate]; simp)
    clear ho2 h2 hout hT2
    have e1 : (x0.length : Int) + 1 = ((x0.length + 1 : Nat) : Int) := by omega
    have hwr : IntKind.i64.wrap ((x0.length : Int) + 1) = (x0.length : Int) + 1 := IntWalk.i64_in _ (by omega)
    have E1 := hid e1
    clear e1
    go_wp2_with (at_make; refine wpList_make_full _ rfl _ _ 42 rfl w2.heap.size 4 ib (.bool false) 1 Try.underlying42 hbi hbz0 hbz1 _ _ _ _ (x0.length + 1) rfl rfl (by exact E1.out) (by exact E1.out) (by rw [hbz2]; omega) (by unfold maxLen; omega) (Nat.le_refl _) ?_; intro w3 hown3 hgrow3; rw [madeFalse] at hown3; have hb3 : Below w2.heap.size w2 w3 := (Below.refl _ _).grown hgrow3 (by omega) (by simp); have HO3 := hid hown3; have HB3 := hid hb3; clear hown3 hgrow3 hb3)
    go_loopw [6] (fun s6 wr => ∃ (z : Int) (k : Nat) (bs : List Bool), s6 = .int .i64 z ∧ Hid (z = k) ∧ k ≤ out.length ∧ Hid (wr.ownsRow w2.heap.size 4 1 (.slice (some ⟨w2.heap.size, 0, none⟩) (x0.length + 1) (x0.length + 1)) (x0.length + 1) (bools bs)) ∧ Hid (∀ v : Int, 1 ≤ v → v ≤ x0.length → bs[v.toNat]? = some (decide (v ∈ out.take k))) ∧ Hid (Below w2.heap.size w2 wr)) (fun s6 _ => (out.length - (intOf s6)).toNat)
    case atStart => exact ⟨0, 0, _, rfl, rfl, Nat.zero_le _, HO3.out, fun v h1 h2 => by rw [List.getElem?_replicate, if_pos (by omega)]; simp, HB3⟩
    case round =>
      clear HO3 HB3 hwr
      obtain ⟨z, k, bs, rfl, hz, hk, ho, hbs, hb⟩ := hrel
      by_cases hlt : k < out.length
      · obtain ⟨x, hxk⟩ : ∃ x, out[k]? = some x := ⟨out[k], by simp [hlt]⟩
        have hrd := rd_of x0 out HOUT.out k x hxk
        have hzk := hz.out
        have hzd : decide (z < out.length) = true := decide_eq_true (by omega)
        obtain ⟨bo, oo, xx, ha2, hcx, hxx⟩ := ((rowV HO2.out).below hb.out).int hlt
        obtain rfl : xx = x := by rw [hxk] at hxx; exact (Option.some.inj hxx).symm
        obtain ⟨go2, cg, hgo⟩ := own_form9 HO2.out (by omega)
        injection hgo with hgo1 hgo2 hgo3
        rw [hgo1] at ha2
        injection ha2 with ha3
        injection ha3 with ha4 ha5
        subst hgo1
        subst ha4
        subst ha5
        have hgo2lt : go2 < w2.heap.size := (HO2.out.lt go2 rfl).2
        rw [Nat.zero_add, show k = z.toNat by omega] at hcx
        have hrng := hrd.rng
        obtain ⟨px, hpx⟩ : ∃ px : Nat, px = (xx - 1).toNat := ⟨_, rfl⟩
        have hpxl : px < x0.length := by omega
        have hHS := HS.out.below (H2.out.bel.trans (hb.out.mono H2.out.le))
        have hbl : ∀ b o, a0 = some ⟨b, o, none⟩ → b < w2.heap.size := fun b o he => by
          obtain ⟨b', o', _, h1, h2, _⟩ := slv_intK HS.out hpxl
          rw [he] at h1
          injection h1 with h1
          injection h1 with h3 h4
          have := World.block_lt_of_cell? w _ h2
          have := H1.out.le
          have := H2.out.le
          simp only at *
          omega
        obtain ⟨ba, oa, y1, rfl, hcy1, hy1⟩ := slv_intK hHS hpxl
        have hseen : bs[xx.toNat]? = some false := by rw [hbs.out xx hrng.1 hrng.2]; simp [hrd.fresh]
        have hcs : wr.cell? ⟨w2.heap.size, xx.toNat, none⟩ = some (.bool false) := by
          rw [ho.out.cellAt xx.toNat (by omega)]; simp [bools, hseen]
        have hfs : wr.frozen? ⟨w2.heap.size, xx.toNat, none⟩ = false := ho.out.frozenAt xx.toNat
        have HN := hid (ho.out.stored xx.toNat (.bool true)).1
        have HG := hid (ho.out.stored xx.toNat (.bool true)).2
        have hwpx : IntKind.i64.wrap (xx - 1) = (px : Int) := by rw [IntWalk.i64_in _ (by omega)]; omega
        have hwz : IntKind.i64.wrap (z + 1) = z + 1 := IntWalk.i64_in _ (by omega)
        have q1 : decide (xx < 1) = false := decide_eq_false (by omega)
        have q2 : decide ((x0.length : Int) < xx) = false := decide_eq_false (by omega)
        have q3 : 0 ≤ z := by omega
        have q4 : z < out.length := by omega
        have q5 : 0 ≤ xx := by omega
        have q6 : xx < (x0.length : Int) + 1 := by omega
        have q7 : (px : Int) < x0.length := by omega
        have n1 : ¬ go2 = w2.heap.size := by omega
        have n2 : ¬ ba = w2.heap.size := fun e => by have := hbl ba oa rfl; omega
        have HRD := hid hrd
        have HXK := hid hxk
        have HY1 := hid hy1
        have HZK := hid hzk
        have HPX := hid hpx
        clear hrd hxk hxx hy1 hzk hpx hseen hHS
        cases k with
        | zero =>
          have hz0 : decide (0 < z) = false := decide_eq_false (by have := HZK.out; omega)
          go_wp2_with fail
          go_quiet (fail)
          go_wp2_with fail
          go_simp
          go_roundw
          case rel =>
            have hr1 := HN.out
            rw [bools_setO] at hr1
            have hr2 := hb.out.setCell (p := ⟨w2.heap.size, xx.toNat, none⟩) (Nat.le_refl _) (.bool true)
            exact ⟨0 + 1, (by show z + 1 = _; have := HZK.out; omega), hlt, bs.set xx.toNat true, hr1, seen_step hbs.out HXK.out hrng, by first | exact hr2 | exact below_dr hr2 _⟩
          case measure => simp [intOf]; omega
        | succ j =>
          have hz0 : decide (0 < z) = true := decide_eq_true (by have := HZK.out; omega)
          have hj : j < out.length := by omega
          obtain ⟨bo, oo, u, ha2, hcu, huk⟩ := ((rowV HO2.out).below hb.out).int hj
          injection ha2 with ha3
          injection ha3 with ha4 ha5
          subst ha4
          subst ha5
          rw [Nat.zero_add] at hcu
          obtain ⟨hur, hprev⟩ := HRD.out.prev j u rfl huk
          obtain ⟨pu, hpu⟩ : ∃ pu : Nat, pu = (u - 1).toNat := ⟨_, rfl⟩
          have hpul : pu < x0.length := by omega
          have hHS := HS.out.below (H2.out.bel.trans (hb.out.mono H2.out.le))
          obtain ⟨bb, ob, y0, hab, hcy0, hy0⟩ := slv_intK hHS hpul
          injection hab with ha3
          injection ha3 with ha4 ha5
          subst ha4
          subst ha5
          have hcmp := hprev y0 y1 (by rw [← hpu]; exact hy0) (by rw [← HPX.out]; exact HY1.out)
          have hwz1 : IntKind.i64.wrap (z - 1) = (j : Int) := by rw [IntWalk.i64_in _ (by have := HZK.out; omega)]; have := HZK.out; omega
          have hwpu : IntKind.i64.wrap (u - 1) = (pu : Int) := by rw [IntWalk.i64_in _ (by omega)]; omega
          have q8 : (pu : Int) < x0.length := by omega
          have q9 : (j : Int) < out.length := by omega
          have r1 : decide (y0 < y1) = false := decide_eq_false (by omega)
          clear hpu hHS hprev hy0 huk
          rcases hcmp with hcmp | hcmp
          · have r2 : (y0 == y1) = false := by rw [beq_eq_false_iff_ne]; omega
            clear hcmp
            go_wp2_with fail
            go_quiet (fail)
            go_wp2_with fail
            go_simp
            go_roundw
            case rel =>
              have hr1 := HN.out
              rw [bools_setO] at hr1
              have hr2 := hb.out.setCell (p := ⟨w2.heap.size, xx.toNat, none⟩) (Nat.le_refl _) (.bool true)
              exact ⟨j + 1 + 1, (by show z + 1 = _; have := HZK.out; omega), hlt, bs.set xx.toNat true, hr1, seen_step hbs.out HXK.out hrng, by first | exact hr2 | exact below_dr hr2 _⟩
            case measure => simp [intOf]; omega
          · have r2 : (y0 == y1) = true := by rw [beq_iff_eq]; omega
            have r3 : decide (xx < u) = false := decide_eq_false (by omega)
            clear hcmp
            go_wp2_with fail
            go_quiet (fail)
            go_wp2_with fail
            go_simp
            go_roundw
            case rel =>
              have hr1 := HN.out
              rw [bools_setO] at hr1
              have hr2 := hb.out.setCell (p := ⟨w2.heap.size, xx.toNat, none⟩) (Nat.le_refl _) (.bool true)
              exact ⟨j + 1 + 1, (by show z + 1 = _; have := HZK.out; omega), hlt, bs.set xx.toNat true, hr1, seen_step hbs.out HXK.out hrng, by first | exact hr2 | exact below_dr hr2 _⟩
            case measure => simp [intOf]; omega
      · have hzd : decide (z < out.length) = false := decide_eq_false (by have := hz.out; omega)
        have hw2 := hid (hb_touch H2.out (T := fun k => w2.heap.size ≤ k) (touch_of_below hb.out) (fun k hk => by have := (H2.out.at' k hk).2; omega) (fun k hk => by have := H2.out.le; omega))
        have hle : ((out.length : Int) == (x0.length : Int)) = true := by rw [beq_iff_eq]; have := HOL.out; omega
        go_wp2_with fail
        refine (heap_Len b1 S1 _ _ 0 _ (by rw [List.countP_replicate]; rfl) hw2.out.heap).mono ?_
        rintro e w5 ⟨rfl, rfl⟩
        go_wp2_with fail
        refine (law06_known _).mono ?_
        rintro e w12 ⟨rfl, hb12⟩
        have HB12 := hid hb12
        clear hb12
        go_wp2_with fail
        go_ret
        exact ⟨rfl, hw2.out.bel.trans (HB12.out.mono hw2.out.le)⟩
  · have hd0 : decide ((200 : Int) < x0.length) = true := by simp; omega
    go_enter Try.func4, Try.ntmps4
    go_wp2_with (go_at_call 11; refine (law06_known _).mono ?_; rintro e w' ⟨rfl, hb⟩)
    go_ret
    exact ⟨rfl, hb⟩

end Go.Proofs.Ytfhpjaabcegefaa.Ord
