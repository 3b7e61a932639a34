/- The contract of the reference's Norm. -/
import Derived.Test.YtaekcejenagbgaaLitR
import Derived.Test.YtaekcejenagbgaaPRefN
import Derived.Deep.CutBlock
namespace Go.Proofs.Ytaekcejenagbgaa
open Go.RowKit

theorem ref01_Less' (a b : Int) (r : Bool) (w : World) (hr : lessB a b = r) (ha : I64 a) (hb : I64 b) :
    Calls Try.prog 38 #[.int .i64 a, .int .i64 b] w fun e w' => e = .returned (.bool r) ∧ w = w' := hr ▸ ref01_Less a b w ha hb

/-- The form of a row of the call's own that is not empty. -/
theorem own_form {w : World} {B e n : Nat} {v : Value} {xs : List Value} (h : w.ownsRow B e 1 v n xs) (hn : 0 < n) : ∃ g c, v = .slice (some ⟨g, 0, none⟩) n c := by
  rcases h.2 with ⟨_, h0⟩ | ⟨g, cap, cur, h1, _⟩
  · omega
  · exact ⟨g, cap, h1⟩

theorem ints_get {xs : List Int} {k : Nat} {x : Int} (h : xs[k]? = some x) : (ints xs)[k]? = some (.int .i64 x) := by simp [ints, h]

theorem ints_set (xs : List Int) (k : Nat) (x : Int) : (ints xs).set k (.int .i64 x) = ints (xs.set k x) := by simp [ints, List.map_set]

theorem hsto_len {w : World} {B g c j s : Nat} {l : List Int} {z x : Int} (h : (w.setCell ⟨g, s, none⟩ (.int .i64 x)).ownsRow B 3 1 (.slice (some ⟨g, 0, none⟩) (l.length + 1) c) (l.length + 1) ((ints (shiftN l s z)).set s (.int .i64 x))) (hs : s ≤ l.length) (hj : s = j) :
    (w.setCell ⟨g, s, none⟩ (.int .i64 x)).ownsRow B 3 1 (.slice (some ⟨g, 0, none⟩) (l.length + 1) c) (l.take j ++ x :: l.drop j).length (ints (l.take j ++ x :: l.drop j)) := by
  subst hj
  rw [ints_set, shiftN_end (z := z) hs] at h
  have e := shiftN_length (x := x) hs
  unfold shiftN at e h
  rw [e]; exact h

set_option maxRecDepth 100000 in
set_option maxHeartbeats 4000000 in
theorem ref01_Norm (a : Option Addr) (xs : List Int) (m cap : Nat) (w : World) (hm : m = xs.length) (hs : SlV w a (ints xs)) (hx : ∀ x ∈ xs, I64 x) (hl : xs.length ≤ 65536) :
    Calls Try.prog 35 #[.slice a m cap] w fun e w' =>
      ∃ v, e = .returned (.tuple #[v, .bool (adjB (normL xs))]) ∧ SlI w' v (normV xs) ∧ Below w.heap.size w w' := by
  subst hm
  obtain ⟨i0, hi, hz0, hz1, hz2⟩ := info_parts info_int
  have HX := hid hx
  have HS := hid hs
  clear hx hs
  go_enter Try.func35, Try.ntmps35
  go_wp2_with fail
  go_loopw [4, 5] (fun v4 i wr => ∃ k : Nat, k ≤ xs.length ∧ i = .int .i64 k ∧ Hid (wr.ownsRow w.heap.size 3 1 v4 (refL (xs.take k)).length (ints (refL (xs.take k)))) ∧ Below w.heap.size w wr) (fun _ i _ => xs.length - (intOf i).toNat)
  case atStart => exact ⟨0, Nat.zero_le _, rfl, World.ownsRow_nil _ _ _ _, Below.refl _ _⟩
  case round =>
    obtain ⟨k, hk, rfl, ho, hb⟩ := hrel
    by_cases hlt : k < xs.length
    · obtain ⟨b, off, x, rfl, hc0, hx⟩ := HS.out.int hlt
      have hc := below_keeps hb _ _ hc0
      have HCX := hid hc0
      clear hc0
      have hx64 : I64 x := HX.out x (List.mem_of_getElem? hx)
      have HX1 := hid hx
      clear hx
      by_cases hz : x = 0
      · have hz' : (x == 0) = true := by simp [hz]
        have HZ := hid hz
        clear hz
        go_wp2_with fail
        go_roundw
        case rel => exact ⟨k + 1, by omega, by go_num, by rw [refL_step HX1.out, insN_zero HZ.out]; exact ho, hb⟩
        case measure => simp [intOf]; omega
      · have hz' : (x == 0) = false := by simp [hz]
        have HZ := hid hz
        clear hz
        obtain ⟨l, hle⟩ : ∃ l, l = refL (xs.take k) := ⟨_, rfl⟩
        have hll : l.length ≤ k := by rw [hle]; exact Nat.le_trans (refL_length _) (by simp; omega)
        have hl64 : ∀ y ∈ l, I64 y := fun y hy => HX.out y (List.mem_of_mem_take (mem_refL (hle ▸ hy)))
        rw [← hle] at ho
        have HL := hid hle
        have H64 := hid hl64
        have HS4 := hid (own_sli ho.out)
        obtain ⟨a4, c4, rfl, -, -, hs4⟩ := HS4.out
        have HSL := hid hs4
        clear hle hl64 hs4 HS4
        go_upto_block 2 with fail
        go_cut [6] (fun s6 wx => ∃ j nd : Nat, wx = wr.drewN nd ∧ s6 = .int .i64 j ∧ Hid (posN l x = j) ∧ j ≤ l.length)
        case first =>
          go_wp2_with fail
          obtain ⟨wo, rfl⟩ : ∃ wo : World, wo = wr := ⟨_, rfl⟩
          go_loopw [6] (fun s6 wx => ∃ j nd : Nat, j ≤ l.length ∧ wx = wo.drewN nd ∧ s6 = .int .i64 j ∧ Hid (∀ i y, i < j → l[i]? = some y → lessB y x = true)) (fun s6 _ => l.length - (intOf s6).toNat)
          case atStart => exact ⟨0, 0, Nat.zero_le _, rfl, rfl, fun i y h => by omega⟩
          case round =>
            obtain ⟨j, nd, hj, rfl, rfl, hrel⟩ := hrel
            by_cases hjl : j < l.length
            · obtain ⟨b2, off2, y, rfl, hcy, hy⟩ := HSL.out.int hjl
              have hy64 : I64 y := H64.out y (List.mem_of_getElem? hy)
              have HY := hid hy
              have hd : decide (j < l.length) = true := decide_eq_true hjl
              have e1 : (j : Int) < l.length := by omega
              have e2 : (k : Int) < xs.length := by omega
              clear hy
              cases hxy : lessB y x with
              | true =>
                have HXY := hid hxy
                clear hxy
                go_wp2_with fail
                go_quiet ((go_at_call 38; first | exact quiet_same2 (ref01_Less' _ _ _ _ HXY.out (by assumption) (by assumption)) | exact quiet_same (ref01_Less' _ _ _ _ HXY.out (by assumption) (by assumption))))
                go_wp2_with fail
                go_roundw
                case rel => exact ⟨j + 1, _, by omega, (by first | rfl | exact World.drewN_drewN ..), by go_num, fun i z hi hz => by
                  rcases Nat.lt_or_ge i j with h | h
                  · exact hrel i z h hz
                  · have : i = j := by omega
                    subst this
                    rw [HY.out] at hz; injection hz with hz; subst hz; exact HXY.out⟩
                case measure => simp [intOf]; omega
              | false =>
                have HXY := hid hxy
                clear hxy
                go_wp2_with fail
                go_quiet ((go_at_call 38; first | exact quiet_same2 (ref01_Less' _ _ _ _ HXY.out (by assumption) (by assumption)) | exact quiet_same (ref01_Less' _ _ _ _ HXY.out (by assumption) (by assumption))))
                go_wp2_with fail
                go_meet
                case rel => exact ⟨j, _, (by first | rfl | exact World.drewN_drewN ..), rfl, posN_eq (by omega) hrel.out (fun z hz => by rw [HY.out] at hz; injection hz with hz; subst hz; exact HXY.out), by omega⟩
            · have hd : decide (j < l.length) = false := decide_eq_false hjl
              go_wp2_with fail
              go_quiet (fail)
              go_wp2_with fail
              go_meet
              case rel => exact ⟨j, _, (by first | rfl | exact World.drewN_drewN ..), rfl, posN_eq (by omega) hrel.out (fun z hz => by rw [List.getElem?_eq_none (by omega)] at hz; cases hz), by omega⟩
        case rest =>
          obtain ⟨j, nd, rfl, rfl, hpos, hj⟩ := hcut
          have e2 : (k : Int) < xs.length := by omega
          have hcs : (∃ y, l[j]? = some y ∧ j < l.length) ∨ j = l.length := by
            rcases Nat.lt_or_ge j l.length with h | h
            · exact Or.inl ⟨l[j], by simp [h], h⟩
            · exact Or.inr (by omega)
          rcases hcs with ⟨y, hy, hjl⟩ | hjl
          · obtain ⟨b2, off2, y', rfl, hcy, hy'⟩ := HSL.out.int hjl
            rw [hy] at hy'
            injection hy' with hy'
            subst hy'
            have HY := hid hy
            have hd : decide (j < l.length) = true := decide_eq_true hjl
            have e1 : (j : Int) < l.length := by omega
            clear hy
            cases hyx : (y == x) with
            | true =>
              have hyx' : y = x := by simpa using hyx
              have HYX := hid hyx'
              clear hyx'
              go_wp2_with fail
              go_quiet (fail)
              go_wp2_with fail
              go_roundw
              case rel => exact ⟨k + 1, by omega, by go_num, by rw [refL_step HX1.out, ← HL.out, insN_there HZ.out hpos.out (by rw [HY.out, HYX.out])]; exact ho.out, below_dr hb _⟩
              case measure => simp [intOf]; omega
            | false =>
              have HNE : Hid (l[j]? ≠ some x) := fun h => by rw [HY.out] at h; injection h with h; subst h; simp at hyx
              go_wp2_with fail
              go_quiet (fail)
              go_wp2_with (at_builtin; refine wpList_append_sl _ rfl _ _ 40 rfl w.heap.size 3 i0 (.int .i64 0) 8 Try.underlying40 hi hz0 hz1 hz2 rfl _ l.length (ints l) rfl (World.ownsRow.alloc (w := wr.drewN _) ho.out _) _ 1 _ [.int .i64 0] rfl (slv_new_dr _ _ _ _ _) rfl (by nofun) one_int (by unfold maxLen; omega) (by omega) (by simp only [size_al, heap_dr]; have := hb.size; omega) ?_; intro v9 w9 ho9 hg9; obtain ⟨g, c9, rfl⟩ := own_form ho9 (by omega); have HO9 := hid ho9; have HG9 := hid hg9; clear ho9 hg9)
              have hb9 : Below w.heap.size w w9 := (below_al (below_dr hb _) (by simp only [heap_dr]; exact hb.size) _).grown HG9.out (by simp only [size_al, heap_dr]; have := hb.size; omega) (fun q hq => (ho.out.lt q hq).1)
              have HSH : Hid (w9.ownsRow w.heap.size 3 1 (.slice (some ⟨g, 0, none⟩) (l.length + 1) c9) (l.length + 1) (ints (shiftN l l.length 0))) := by
                rw [shiftN_start, ints_append]; exact HO9.out
              have hgl : w.heap.size ≤ g := (HO9.out.lt g rfl).1
              clear HO9 HG9 hb
              obtain ⟨wo, rfl⟩ : ∃ wo : World, wo = wr := ⟨_, rfl⟩
              go_loopw [7] (fun s7 wr => ∃ (s : Nat) (z : Int), j ≤ s ∧ s ≤ l.length ∧ s7 = .int .i64 s ∧ Hid (wr.ownsRow w.heap.size 3 1 (.slice (some ⟨g, 0, none⟩) (l.length + 1) c9) (l.length + 1) (ints (shiftN l s z))) ∧ Below w.heap.size w wr) (fun s7 _ => (intOf s7).toNat)
              case atStart => exact ⟨l.length, 0, by omega, Nat.le_refl _, by go_num, HSH.out, hb9⟩
              case round =>
                obtain ⟨s, z, hjs, hsl, rfl, hos, hbs⟩ := hrel
                by_cases hgt : j < s
                · obtain ⟨s, rfl⟩ : ∃ s', s = s' + 1 := ⟨s - 1, by omega⟩
                  have hgl2 : l[s]? = some l[s] := by simp
                  have hlen := shiftN_length (x := z) hsl
                  have hc1 : wr.cell? ⟨g, s, none⟩ = some (.int .i64 l[s]) := by
                    rw [hos.out.cellAt s (by omega)]; exact ints_get (by rw [shiftN_get (by omega)]; exact hgl2)
                  have hc2 : wr.cell? ⟨g, s + 1, none⟩ = some (.int .i64 (shiftN l (s + 1) z)[s + 1]) := by
                    rw [hos.out.cellAt (s + 1) (by omega)]; exact ints_get (by simp)
                  have hfz : wr.frozen? ⟨g, s + 1, none⟩ = false := hos.out.frozenAt (s + 1)
                  have HN := hid (hos.out.stored (s + 1) (.int .i64 l[s])).1
                  have HG := hid (hos.out.stored (s + 1) (.int .i64 l[s])).2
                  have HGL := hid hgl2
                  clear hgl2
                  go_wp2_with fail
                  go_roundw
                  case rel => exact ⟨s, l[s], by omega, by omega, by go_num, by rw [← shiftN_step HGL.out, ← ints_set]; exact HN.out, hbs.grown HG.out hbs.size (fun q hq => by injection hq with hq; omega)⟩
                  case measure => simp [intOf]
                · obtain rfl : s = j := by omega
                  have hlen := shiftN_length (x := z) hsl
                  have hcx : wr.cell? ⟨b, off + k, none⟩ = some (.int .i64 x) := below_keeps (w := w) hbs _ _ HCX.out
                  have hc2 : wr.cell? ⟨g, s, none⟩ = some (.int .i64 (shiftN l s z)[s]) := by
                    rw [hos.out.cellAt s (by omega)]; exact ints_get (by simp)
                  have hfz : wr.frozen? ⟨g, s, none⟩ = false := hos.out.frozenAt s
                  have HN := hid (hos.out.stored s (.int .i64 x)).1
                  have HG := hid (hos.out.stored s (.int .i64 x)).2
                  go_wp2_with fail
                  go_roundw
                  case rel => exact ⟨k + 1, by omega, by go_num, by rw [refL_step HX1.out, ← HL.out, insN_new HZ.out hpos.out HNE.out]; exact hsto_len HN.out hsl rfl, hbs.grown HG.out hbs.size (fun q hq => by injection hq with hq; omega)⟩
                  case measure => simp [intOf]; omega
          · have hd : decide (j < l.length) = false := decide_eq_false (by omega)
            have HNE : Hid (l[j]? ≠ some x) := fun h => by rw [List.getElem?_eq_none (by omega)] at h; cases h
            clear hjl
            go_wp2_with fail
            go_quiet (fail)
            go_wp2_with (at_builtin; refine wpList_append_sl _ rfl _ _ 40 rfl w.heap.size 3 i0 (.int .i64 0) 8 Try.underlying40 hi hz0 hz1 hz2 rfl _ l.length (ints l) rfl (World.ownsRow.alloc (w := wr.drewN _) ho.out _) _ 1 _ [.int .i64 0] rfl (slv_new_dr _ _ _ _ _) rfl (by nofun) one_int (by unfold maxLen; omega) (by omega) (by simp only [size_al, heap_dr]; have := hb.size; omega) ?_; intro v9 w9 ho9 hg9; obtain ⟨g, c9, rfl⟩ := own_form ho9 (by omega); have HO9 := hid ho9; have HG9 := hid hg9; clear ho9 hg9)
            have hb9 : Below w.heap.size w w9 := (below_al (below_dr hb _) (by simp only [heap_dr]; exact hb.size) _).grown HG9.out (by simp only [size_al, heap_dr]; have := hb.size; omega) (fun q hq => (ho.out.lt q hq).1)
            have HSH : Hid (w9.ownsRow w.heap.size 3 1 (.slice (some ⟨g, 0, none⟩) (l.length + 1) c9) (l.length + 1) (ints (shiftN l l.length 0))) := by
              rw [shiftN_start, ints_append]; exact HO9.out
            have hgl : w.heap.size ≤ g := (HO9.out.lt g rfl).1
            clear HO9 HG9 hb
            obtain ⟨wo, rfl⟩ : ∃ wo : World, wo = wr := ⟨_, rfl⟩
            go_loopw [7] (fun s7 wr => ∃ (s : Nat) (z : Int), j ≤ s ∧ s ≤ l.length ∧ s7 = .int .i64 s ∧ Hid (wr.ownsRow w.heap.size 3 1 (.slice (some ⟨g, 0, none⟩) (l.length + 1) c9) (l.length + 1) (ints (shiftN l s z))) ∧ Below w.heap.size w wr) (fun s7 _ => (intOf s7).toNat)
            case atStart => exact ⟨l.length, 0, by omega, Nat.le_refl _, by go_num, HSH.out, hb9⟩
            case round =>
              obtain ⟨s, z, hjs, hsl, rfl, hos, hbs⟩ := hrel
              by_cases hgt : j < s
              · obtain ⟨s, rfl⟩ : ∃ s', s = s' + 1 := ⟨s - 1, by omega⟩
                have hgl2 : l[s]? = some l[s] := by simp
                have hlen := shiftN_length (x := z) hsl
                have hc1 : wr.cell? ⟨g, s, none⟩ = some (.int .i64 l[s]) := by
                  rw [hos.out.cellAt s (by omega)]; exact ints_get (by rw [shiftN_get (by omega)]; exact hgl2)
                have hc2 : wr.cell? ⟨g, s + 1, none⟩ = some (.int .i64 (shiftN l (s + 1) z)[s + 1]) := by
                  rw [hos.out.cellAt (s + 1) (by omega)]; exact ints_get (by simp)
                have hfz : wr.frozen? ⟨g, s + 1, none⟩ = false := hos.out.frozenAt (s + 1)
                have HN := hid (hos.out.stored (s + 1) (.int .i64 l[s])).1
                have HG := hid (hos.out.stored (s + 1) (.int .i64 l[s])).2
                have HGL := hid hgl2
                clear hgl2
                go_wp2_with fail
                go_roundw
                case rel => exact ⟨s, l[s], by omega, by omega, by go_num, by rw [← shiftN_step HGL.out, ← ints_set]; exact HN.out, hbs.grown HG.out hbs.size (fun q hq => by injection hq with hq; omega)⟩
                case measure => simp [intOf]
              · obtain rfl : s = j := by omega
                have hlen := shiftN_length (x := z) hsl
                have hcx : wr.cell? ⟨b, off + k, none⟩ = some (.int .i64 x) := below_keeps (w := w) hbs _ _ HCX.out
                have hc2 : wr.cell? ⟨g, s, none⟩ = some (.int .i64 (shiftN l s z)[s]) := by
                  rw [hos.out.cellAt s (by omega)]; exact ints_get (by simp)
                have hfz : wr.frozen? ⟨g, s, none⟩ = false := hos.out.frozenAt s
                have HN := hid (hos.out.stored s (.int .i64 x)).1
                have HG := hid (hos.out.stored s (.int .i64 x)).2
                go_wp2_with fail
                go_roundw
                case rel => exact ⟨k + 1, by omega, by go_num, by rw [refL_step HX1.out, ← HL.out, insN_new HZ.out hpos.out HNE.out]; exact hsto_len HN.out hsl rfl, hbs.grown HG.out hbs.size (fun q hq => by injection hq with hq; omega)⟩
                case measure => simp [intOf]; omega
    · have hkl : k = xs.length := by omega
      have ho2 : Hid (wr.ownsRow w.heap.size 3 1 u4 (normL xs).length (ints (normL xs))) := by
        have := ho.out
        rw [hkl, List.take_length, refL_eq] at this
        exact this
      obtain ⟨L, hL⟩ : ∃ L, L = normL xs := ⟨_, rfl⟩
      rw [← hL] at ho2
      have HL := hid hL
      have hlen : L.length ≤ 65536 := by rw [hL]; exact Nat.le_trans (normL_length xs) hl
      have hxL : ∀ x ∈ L, I64 x := fun x h => HX.out x (mem_normL (hL ▸ h))
      have HXL := hid hxL
      have HSI := hid (own_sli ho2.out)
      obtain ⟨a4, c4, rfl, hsl1, hsl2, hs4⟩ := own_sli ho2.out
      have HS4 := hid hs4
      have HB := hid hb
      clear hL hxL ho hs4 hsl2 hkl hb
      go_wp2_with fail
      obtain ⟨w1, rfl⟩ : ∃ w1 : World, w1 = wr := ⟨_, rfl⟩
      go_loopw [8] (fun i wr => ∃ j nd : Nat, j ≤ L.length ∧ wr = w1.drewN nd ∧ i = .int .i64 (j : Int) ∧ Hid ((List.range (j + 1)).any (adjAt L) = false)) (fun i _ => L.length + 1 - (intOf i).toNat)
      case atStart => exact ⟨0, 0, Nat.zero_le _, rfl, rfl, rfl⟩
      case round =>
        obtain ⟨j, nd, hj, rfl, rfl, hrel⟩ := hrel
        by_cases hlt : j + 1 < L.length
        · obtain ⟨b, off, x, rfl, hc, hx⟩ := HS4.out.int hlt
          obtain ⟨b', off', y, hbb, hd, hy⟩ := HS4.out.int (k := j) (by omega)
          simp at hbb
          obtain ⟨rfl, rfl⟩ := hbb
          have hx64 : I64 x := HXL.out x (List.mem_of_getElem? hx)
          have hy64 : I64 y := HXL.out y (List.mem_of_getElem? hy)
          have HX1 := hid hx
          have HY1 := hid hy
          have e1 : IntKind.i64.wrap ((j : Int) + 1) = (j : Int) + 1 := by rw [IntWalk.i64_in _ (by omega)]
          have e2 : 0 ≤ (j : Int) + 1 := by omega
          have e3 : ((j : Int) + 1).toNat = j + 1 := by omega
          have e4 : (j : Int) + 1 < L.length := by omega
          have e5 : (j : Int) < L.length := by omega
          clear hx hy
          go_wp2_with fail
          go_quiet ((go_at_call 47; first | exact quiet_same2 (ref01_size _ _ (by assumption)) | exact quiet_same (ref01_size _ _ (by assumption))))
          clear e1 e2 e3
          go_wp2_with fail
          · have hne : ((y.natAbs : Int) == x.natAbs) = true := by assumption
            have hne' : ((x.natAbs : Int) == y.natAbs) = true := by simp at hne ⊢; omega
            go_ret2
            have hadj := adjB_of HX1.out HY1.out hne'
            rw [← HL.out, hadj, normV_true (HL.out ▸ hadj)]
            exact ⟨_, rfl, ⟨none, 0, rfl, Nat.le_refl _, fun _ => rfl, SlV.nil _ _⟩, by first | exact below_dr HB.out _ | exact below_dr (below_dr HB.out _) _⟩
          · have hne : ((y.natAbs : Int) == x.natAbs) = false := by assumption
            have hne' : ((x.natAbs : Int) == y.natAbs) = false := by simp at hne ⊢; omega
            go_roundw
            case rel => exact ⟨j + 1, _, by omega, (by first | rfl | exact World.drewN_drewN ..), by go_num, adj_step HX1.out HY1.out hne' hrel⟩
            case measure => simp [intOf]; omega
        · have hadj := adjB_not hlt hrel
          have HADJ := hid hadj
          clear hadj
          go_wp2_with fail
          go_ret2
          rw [← HL.out, HADJ.out, normV_false (HL.out ▸ HADJ.out), ← HL.out]
          exact ⟨_, rfl, HSI.out, by first | exact below_dr HB.out _ | exact below_dr (below_dr HB.out _) _⟩

/-- The same, where no literal stands beside its negative. -/
theorem ref01_NormF (a : Option Addr) (xs ys : List Int) (m cap : Nat) (w : World) (hn : adjB (normL xs) = false) (hy : normL xs = ys) (hm : m = xs.length) (hs : SlV w a (ints xs)) (hx : ∀ x ∈ xs, I64 x) (hl : xs.length ≤ 65536) :
    Calls Try.prog 35 #[.slice a m cap] w fun e w' =>
      ∃ a' c', e = .returned (.tuple #[.slice a' ys.length c', .bool false]) ∧ SlV w' a' (ints ys) ∧ Below w.heap.size w w' := by
  refine (ref01_Norm a xs m cap w hm hs hx hl).mono ?_
  rintro e w' ⟨v, rfl, ho, hb⟩
  rw [normV_false hn, hy] at ho
  obtain ⟨a', c', rfl, _, _, ho'⟩ := ho
  exact ⟨a', c', by rw [hn], ho', hb⟩

/-- The same, where a literal stands beside its negative. -/
theorem ref01_NormT (a : Option Addr) (xs : List Int) (m cap : Nat) (w : World) (hn : adjB (normL xs) = true) (hm : m = xs.length) (hs : SlV w a (ints xs)) (hx : ∀ x ∈ xs, I64 x) (hl : xs.length ≤ 65536) :
    Calls Try.prog 35 #[.slice a m cap] w fun e w' =>
      ∃ a' c', e = .returned (.tuple #[.slice a' 0 c', .bool true]) ∧ Below w.heap.size w w' := by
  refine (ref01_Norm a xs m cap w hm hs hx hl).mono ?_
  rintro e w' ⟨v, rfl, ho, hb⟩
  rw [normV_true hn] at ho
  obtain ⟨a', c', rfl, _, _, ho'⟩ := ho
  exact ⟨a', c', by rw [hn]; rfl, hb⟩

end Go.Proofs.Ytaekcejenagbgaa
