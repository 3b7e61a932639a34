/- The contracts of prop's state: set and unit. -/
import Derived.Test.YtfgaglgaofceiaaIM
import Derived.Test.YtfgaglgaofceiaaChan
import Derived.Test.YtfgaglgaofceiaaPRun
namespace Go.Proofs.Ytfgaglgaofceiaa.Ord
open Go.RowKit Go.Conc

/-- The entries of a set of literals. -/
def kes (K : List Int) : List (Int × Value) := K.map fun a => (a, .bool true)

theorem kes_get (K : List Int) (a : Int) : (aget (kes K) a).getD (.bool false) = .bool (decide (a ∈ K)) := by
  induction K with
  | nil => rfl
  | cons k K ih =>
    unfold aget kes at ih ⊢
    simp only [List.map_cons, List.find?_cons]
    by_cases h : k = a
    · subst h; simp
    · have hb : (k == a) = false := by simpa using h
      simp only [hb]
      rw [ih]
      have : (a ∈ k :: K) ↔ a ∈ K := by simp [Ne.symm h]
      simp [this]

theorem kes_put {K : List Int} {a : Int} (h : a ∉ K) : aput (kes K) a (.bool true) = kes (K ++ [a]) := by
  have hg : (kes K).any (fun p => p.1 == a) = false := List.any_eq_false.2 fun p hp e => by
    obtain ⟨k, hk, rfl⟩ := List.mem_map.1 hp
    simp at e
    exact h (by rw [← e]; exact hk)
  unfold aput
  rw [hg]
  simp [kes]

theorem kes_nodup {w : World} {b : Nat} {K : List Int} (h : IM w b (kes K)) : K.Nodup := by
  have := h.nodup
  simpa [kes, List.map_map, Function.comp_def] using this

/-- What does not change in a state. -/
structure Rds (w : World) (b : Nat) (vc vo : Value) (bw bk bc : Nat) (C : List (List Int)) (f : Int → List Int) (es : List (Int × Value)) : Prop where
  blk : w.heap[b]? = some (.cells #[vc, vo, .map (some bw), .map (some bk), .chan (some bc)] 75)
  cls : ∃ a c, vc = .slice a C.length c ∧ ∀ (i : Nat) (xs : List Int), C[i]? = some xs → ∃ g o u, a = some ⟨g, o, none⟩ ∧ w.cell? ⟨g, o + i, none⟩ = some u ∧ SlI w u xs
  wth : IM w bw es ∧ ∀ k, SlI w ((aget es k).getD (.slice none 0 0)) (f k)

/-- It does not change where only the blocks of S are written. -/
def Fix (S : Nat → Prop) (w : World) (b : Nat) (vc vo : Value) (bw bk bc : Nat) (C : List (List Int)) (f : Int → List Int) (es : List (Int × Value)) : Prop := ∀ w', Touch S w w' → Rds w' b vc vo bw bk bc C f es

theorem Fix.next {S : Nat → Prop} {w w' : World} {b : Nat} {vc vo : Value} {bw bk bc : Nat} {C : List (List Int)} {f : Int → List Int} {es : List (Int × Value)} (h : Fix S w b vc vo bw bk bc C f es) (ht : Touch S w w') : Fix S w' b vc vo bw bk bc C f es := fun _ h' => h _ (ht.trans h')
theorem Fix.now {S : Nat → Prop} {w : World} {b : Nat} {vc vo : Value} {bw bk bc : Nat} {C : List (List Int)} {f : Int → List Int} {es : List (Int × Value)} (h : Fix S w b vc vo bw bk bc C f es) : Rds w b vc vo bw bk bc C f es := h w (Touch.refl _ _)

theorem Rds.cells {w : World} {b : Nat} {vc vo : Value} {bw bk bc : Nat} {C : List (List Int)} {f : Int → List Int} {es : List (Int × Value)} (h : Rds w b vc vo bw bk bc C f es) :
    w.cell? ⟨b, 0, none⟩ = some vc ∧ w.cell? ⟨b, 1, none⟩ = some vo ∧ w.cell? ⟨b, 2, none⟩ = some (.map (some bw)) ∧ w.cell? ⟨b, 3, none⟩ = some (.map (some bk)) ∧ w.cell? ⟨b, 4, none⟩ = some (.chan (some bc)) :=
  ⟨fit_cell (vs := [vc, vo, .map (some bw), .map (some bk), .chan (some bc)]) h.blk 0, fit_cell (vs := [vc, vo, .map (some bw), .map (some bk), .chan (some bc)]) h.blk 1, fit_cell (vs := [vc, vo, .map (some bw), .map (some bk), .chan (some bc)]) h.blk 2, fit_cell (vs := [vc, vo, .map (some bw), .map (some bk), .chan (some bc)]) h.blk 3, fit_cell (vs := [vc, vo, .map (some bw), .map (some bk), .chan (some bc)]) h.blk 4⟩

/-- What changes in a state: how many literals of each clause are open, what is known, and how much of it was looked at. -/
structure Dyn (S : Nat → Prop) (w : World) (vo : Value) (bk bc cap : Nat) (O K : List Int) (d : Nat) : Prop where
  op : Rw w vo O
  kn : IM w bk (kes K)
  ch : w.heap[bc]? = some (.chan cap (ints (K.drop d)).toArray false K.length d false)
  sO : ∀ k, vo.ownBlock = some k → S k
  sK : S bk
  sC : S bc
  le : d ≤ K.length

theorem info_zero_bool (w : World) : (zeroValue 4).run Try.prog w = .ok (.bool false) w := by kernel_rfl

theorem look_known {S : Nat → Prop} {w : World} {vo : Value} {bk bc cap d : Nat} {O K : List Int} (h : Dyn S w vo bk bc cap O K d) (a : Int) :
    (Instr.lookup 72 (.map (some bk)) (.int .i64 a) false).run Try.prog w = .ok (.bool (decide (a ∈ K))) w := by
  rw [im_lookup (P := Try.prog) Try.underlying72 Try.underlying3 (info_zero_bool w) h.kn a, kes_get]

theorem dyn_apart {S : Nat → Prop} {w : World} {vo : Value} {bk bc cap d : Nat} {O K : List Int} (h : Dyn S w vo bk bc cap O K d) : vo.ownBlock ≠ some bk ∧ vo.ownBlock ≠ some bc ∧ bk ≠ bc := by
  have h1 : ∀ k, vo.ownBlock = some k → ∃ cur e m, w.heap[k]? = some (.cells cur e m) := fun k hk => by
    rcases h.op.2 with ⟨rfl, _⟩ | ⟨g, cap, cur, rfl, _, hg, _⟩
    · cases hk
    · simp only [Value.ownBlock, Option.some.injEq] at hk
      subst hk
      exact ⟨_, _, _, hg⟩
  obtain ⟨arr, c, hm, -⟩ := h.kn
  refine ⟨fun e => ?_, fun e => ?_, fun e => ?_⟩
  · obtain ⟨cur, e', m, hh⟩ := h1 _ e; rw [hm] at hh; cases hh
  · obtain ⟨cur, e', m, hh⟩ := h1 _ e; rw [h.ch] at hh; cases hh
  · rw [e, h.ch] at hm; cases hm

theorem chan_push {w : World} {c cap s r : Nat} {buf : Array Value} {v : Value} {tm : Bool} {bf : Array Value} (hl : c < w.heap.size) (h : buf.push v = bf) : (w.setChan c cap (buf.push v) false s r tm).heap[c]? = some (.chan cap bf false s r tm) := by
  rw [heap_setChan _ _ _ _ _ _ _ _ hl, h]

set_option maxRecDepth 100000 in
set_option maxHeartbeats 4000000 in
theorem prop_set (S : Nat → Prop) (b : Nat) (vc vo : Value) (bw bk bc cap d : Nat) (C : List (List Int)) (f : Int → List Int) (es : List (Int × Value)) (O K : List Int) (a : Int) (r : Bool) (w : World) (hr : decide (-a ∉ K) = r) (ha : -1048576 ≤ a ∧ a ≤ 1048576) (hF : Fix S w b vc vo bw bk bc C f es) (hD : Dyn S w vo bk bc cap O K d)
    (hcap : (setK K a).length < d + cap + 1) :
    Calls Try.prog 47 #[.pointer (some ⟨b, 0, none⟩), .int .i64 a] w fun e w' => e = .returned (.bool r) ∧ Dyn S w' vo bk bc cap O (setK K a) d ∧ Touch S w w' := by
  obtain ⟨-, -, -, hc3, hc4⟩ := hF.now.cells
  have hl1 := look_known hD (-a)
  have hl2 := look_known hD a
  have hw1 : IntKind.i64.wrap (-a) = -a := IntWalk.i64_in _ (by omega)
  by_cases h1 : -a ∈ K
  · rw [decide_eq_true h1] at hl1
    rw [decide_eq_false (by simpa using h1)] at hr
    rw [setK_neg h1]
    have HD := hid hD
    have HR := hid hr
    clear hF hD hl2 h1 hcap hr
    go_enter Try.func47, Try.ntmps47
    go_wp2_with fail
    go_ret
    exact ⟨by rw [← HR.out]; rfl, HD.out, Touch.refl _ _⟩
  · rw [decide_eq_false h1] at hl1
    rw [decide_eq_true (by simpa using h1)] at hr
    by_cases h2 : a ∈ K
    · rw [decide_eq_true h2] at hl2
      rw [setK_pos h1 h2]
      have HD := hid hD
      have HR := hid hr
      clear hF hD h1 h2 hcap hr
      go_enter Try.func47, Try.ntmps47
      go_wp2_with fail
      go_ret
      exact ⟨by rw [← HR.out]; rfl, HD.out, Touch.refl _ _⟩
    · rw [decide_eq_false h2] at hl2
      rw [setK_new h1 h2] at hcap ⊢
      obtain ⟨n1, n2, n3⟩ := dyn_apart hD
      obtain ⟨w1, hup, him, ht1, hz1⟩ := im_update (P := Try.prog) Try.underlying72 Try.underlying3 hD.kn a (.bool true)
      rw [kes_put h2] at him
      have hbS : ∀ k, k = bk → S k := fun k hk => by rw [hk]; exact hD.sK
      have ht1' : Touch S w w1 := ht1.mono fun k _ hk => hbS k hk
      have hc4' := (hF.now.cells).2.2.2.2
      have hcw1 := ((hF.next ht1').now.cells).2.2.2.2
      have hcl := (Array.getElem?_eq_some_iff.1 hD.ch).1
      have hch1 : w1.heap[bc]? = some (.chan cap (ints (K.drop d)).toArray false K.length d false) := (ht1.block bc hcl (fun e => n3 e.symm)).trans hD.ch
      have hroom : (ints (K.drop d)).toArray.size < cap := by
        simp only [List.size_toArray, ints_length, List.length_drop]
        rw [List.length_append] at hcap
        simp at hcap
        have := hD.le
        omega
      have hT := ht1'.trans ((touch_chan w1 bc cap ((ints (K.drop d)).toArray.push (.int .i64 a)) false (K.length + 1) d false).mono fun k _ hk => by rw [hk]; exact hD.sC)
      have hDn : Dyn S (w1.setChan bc cap ((ints (K.drop d)).toArray.push (.int .i64 a)) false (K.length + 1) d false) vo bk bc cap O (K ++ [a]) d := by
        have tC := touch_chan w1 bc cap ((ints (K.drop d)).toArray.push (.int .i64 a)) false (K.length + 1) d false
        refine ⟨?_, ?_, ?_, hD.sO, hD.sK, hD.sC, by have := hD.le; simp; omega⟩
        · refine rw_frame hD.op fun k hk => ?_
          have hkl := rw_lt hD.op k hk
          rw [tC.block k (by omega) (fun e => n2 (by rw [hk, e])), ht1.block k hkl (fun e => n1 (by rw [hk, e]))]
        · exact him.frame (tC.block bk (by have := him.lt; omega) n3)
        · rw [heap_setChan _ _ _ _ _ _ _ _ (by rw [hz1]; exact hcl)]
          rw [List.length_append, List.length_singleton, List.drop_append_of_le_length hD.le]
          simp [ints]
      have HT := hid hT
      have HDN := hid hDn
      have HR := hid hr
      have HCH := hid hch1
      have HROOM := hid hroom
      clear hF hD h1 h2 hcap hr n1 n2 n3 him ht1 hz1 hbS ht1' hc4' hcl hch1 hroom hT hDn
      refine calls_of_wpN Try.func47 rfl ?_
      simp only [Try.ntmps47, List.size_toArray, List.length_cons, List.length_nil, Nat.reduceAdd, Nat.reduceSub, Array.replicate_succ, Array.replicate_zero, List.push_toArray, List.append_toArray, List.nil_append, List.cons_append]
      refine wpN_seq ?_
      go_wp2_with fail
      refine wpN_seq ?_
      go_wp2_with fail
      refine wpN_seqN (wpN_seq ?_)
      go_wp2_with fail
      refine wpN_cond (t := true) rfl (wpN_seq ?_)
      go_wp2_with fail
      refine wpN_region ?_
      simp only [List.size_toArray, List.length_cons, List.length_nil, Nat.reduceAdd, List.range, List.range.loop]
      refine opsN_value rfl rfl (v := .pointer (some ⟨b, 0, none⟩)) (w' := w1) (by simp [go_sem]) ?_
      walk_nrm
      refine opsN_value rfl rfl (v := .pointer (some ⟨b, 0, none⟩)) (w' := w1) (by simp [go_sem]) ?_
      walk_nrm
      refine opsN_value rfl rfl (v := .pointer (some ⟨b, 4, none⟩)) (w' := w1) (by simp [go_sem]) ?_
      walk_nrm
      refine opsN_value rfl rfl (v := .chan (some bc)) (w' := w1) (by simp [go_sem, hcw1]) ?_
      walk_nrm
      refine opsN_value rfl rfl (v := .int .i64 a) (w' := w1) (by simp [go_sem]) ?_
      walk_nrm
      refine opsN_send (z := .tuple #[]) (v := .int .i64 a) rfl rfl (by simp [go_sem, scase]) HCH.out HROOM.out ?_
      walk_nrm
      refine opsN_end ?_
      refine wpN_of_wp ?_
      go_wp2_with fail
      go_ret
      exact ⟨by rw [← HR.out]; rfl, by simpa only [List.push_toArray] using HDN.out, by simpa only [List.push_toArray] using HT.out⟩

set_option maxRecDepth 100000 in
set_option maxHeartbeats 4000000 in
theorem prop_unit (S : Nat → Prop) (b : Nat) (vc vo : Value) (bw bk bc cap d : Nat) (C : List (List Int)) (f : Int → List Int) (es : List (Int × Value)) (O K xs : List Int) (i : Nat) (r : Bool) (w : World) (hi : C[i]? = some xs) (hr : unitR K xs = r) (ha : ∀ a ∈ xs, -1048576 ≤ a ∧ a ≤ 1048576) (hxl : xs.length ≤ 4294967296) (hF : Fix S w b vc vo bw bk bc C f es) (hD : Dyn S w vo bk bc cap O K d)
    (hcap : (unitK K xs).length < d + cap + 1) :
    Calls Try.prog 53 #[.pointer (some ⟨b, 0, none⟩), .int .i64 i] w fun e w' => e = .returned (.bool r) ∧ Dyn S w' vo bk bc cap O (unitK K xs) d ∧ Touch S w w' := by
  obtain ⟨hc0, -, -, hc3, -⟩ := hF.now.cells
  obtain ⟨ac, cc, rfl, hcls⟩ := hF.now.cls
  obtain ⟨g, o, u, rfl, hcu, hu⟩ := hcls i xs hi
  obtain ⟨au, cu, rfl, -, -, hsu⟩ := hu
  have hil : (i : Int) < C.length := by have := (List.getElem?_eq_some_iff.1 hi).1; omega
  have HD := hid hD
  have HF := hid hF
  have HR := hid hr
  have HA := hid ha
  have HSU := hid hsu
  have HCAP := hid hcap
  clear hD hF hr ha hsu hcap hcls hi
  go_enter Try.func53, Try.ntmps53
  go_wp2_with fail
  go_loop [15] (fun s15 => ∃ k : Nat, s15 = .int .i64 k ∧ k ≤ xs.length ∧ Hid (∀ y ∈ xs.take k, -y ∈ K)) (fun s15 => (xs.length - (intOf s15)).toNat)
  case atStart => exact ⟨0, rfl, Nat.zero_le _, by simp [Hid]⟩
  case round =>
    obtain ⟨k, rfl, hk, hh⟩ := hrel
    by_cases hlt : k < xs.length
    · obtain ⟨bo, oo, x, rfl, hcx, hxk⟩ := HSU.out.int hlt
      have hxb := HA.out x (List.mem_of_getElem? hxk)
      have hw1 : IntKind.i64.wrap (-x) = -x := IntWalk.i64_in _ (by omega)
      have hwk : IntKind.i64.wrap ((k : Int) + 1) = (k : Int) + 1 := IntWalk.i64_in _ (by omega)
      have hl1 := look_known HD.out (-x)
      by_cases hn : -x ∈ K
      · rw [decide_eq_true hn] at hl1
        have HN := hid (unit_skip hh.out hxk hn)
        clear hn hxk
        go_wp2_with fail
        go_round
        case rel => exact ⟨k + 1, by simp, hlt, HN⟩
        case measure => simp [intOf]; omega
      · rw [decide_eq_false hn] at hl1
        obtain ⟨e1, e2⟩ := unit_hit hh.out hxk hn
        have hr1 : r = true := by rw [← HR.out]; exact e1
        have HE2 := hid e2
        have HN := hid hn
        clear hn hxk e1 e2
        go_wp2_with fail
        refine (prop_set S b _ vo bw bk bc cap d C f es O K x true _ (by simpa using HN.out) hxb HF.out HD.out (by rw [← HE2.out]; exact HCAP.out)).mono ?_
        rintro e w2 ⟨rfl, h2, ht2⟩
        have H2 := hid h2
        have HT := hid ht2
        clear h2 ht2
        go_wp2_with fail
        go_ret
        exact ⟨by rw [hr1]; rfl, by rw [HE2.out]; exact H2.out, HT.out⟩
    · obtain ⟨e1, e2⟩ := unit_none hh.out (by omega)
      have hr1 : r = false := by rw [← HR.out]; exact e1
      have HE2 := hid e2
      have HR1 := hid hr1
      clear e1 e2 hr1
      go_wp2_with fail
      go_ret
      exact ⟨by rw [HR1.out]; rfl, by rw [HE2.out]; exact HD.out, Touch.refl _ _⟩

end Go.Proofs.Ytfgaglgaofceiaa.Ord
