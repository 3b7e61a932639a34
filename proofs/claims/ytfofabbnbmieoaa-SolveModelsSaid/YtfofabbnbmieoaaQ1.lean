/- The contracts of prop's state: set and unit. -/
import Derived.Maps.AppendAt
import Derived.Test.YtfofabbnbmieoaaProg
import Derived.Test.YtfofabbnbmieoaaQ0

namespace Go.Proofs.Ytfofabbnbmieoaa.Ord
open Go.RowKit Go.Conc

/-- The entries of a set of literals. -/
def kes (K : List Int) : List (Int × Value) := K.map fun a => (a, .bool true)

theorem kes_get (K : List Int) (a : Int) : (aget (kes K) a).getD (.bool false) = .bool (decide (a ∈ K)) := by
  induction K with
  | nil => rfl
  | cons k K ih =>
    unfold aget kes at ih ⊢
    simp only [List.map_cons, List.find?_cons]
    by_cases h : k = a
    · subst h; simp
    · have hb : (k == a) = false := by simpa using h
      simp only [hb]
      rw [ih]
      have : (a ∈ k :: K) ↔ a ∈ K := by simp [Ne.symm h]
      simp [this]

theorem kes_put {K : List Int} {a : Int} (h : a ∉ K) : aput (kes K) a (.bool true) = kes (K ++ [a]) := by
  have hg : (kes K).any (fun p => p.1 == a) = false := List.any_eq_false.2 fun p hp e => by
    obtain ⟨k, hk, rfl⟩ := List.mem_map.1 hp
    simp at e
    exact h (by rw [← e]; exact hk)
  unfold aput
  rw [hg]
  simp [kes]

theorem kes_nodup {w : World} {b : Nat} {K : List Int} (h : IM w b (kes K)) : K.Nodup := by
  have := h.nodup
  simpa [kes, List.map_map, Function.comp_def] using this

/-- What does not change in a state. -/
structure Rds (w : World) (b : Nat) (vc vo : Value) (bw bk bc : Nat) (C : List (List Int)) (f : Int → List Int) (es : List (Int × Value)) : Prop where
  blk : w.heap[b]? = some (.cells #[vc, vo, .map (some bw), .map (some bk), .chan (some bc)] 103)
  cls : ∃ a c, vc = .slice a C.length c ∧ ∀ (i : Nat) (xs : List Int), C[i]? = some xs → ∃ g o u, a = some ⟨g, o, none⟩ ∧ w.cell? ⟨g, o + i, none⟩ = some u ∧ SlI w u xs
  wth : IM w bw es ∧ ∀ k, SlI w ((aget es k).getD (.slice none 0 0)) (f k)

/-- It does not change where only the blocks of S are written. -/
def Fix (S : Nat → Prop) (w : World) (b : Nat) (vc vo : Value) (bw bk bc : Nat) (C : List (List Int)) (f : Int → List Int) (es : List (Int × Value)) : Prop := ∀ w', Touch S w w' → Rds w' b vc vo bw bk bc C f es

theorem Fix.next {S : Nat → Prop} {w w' : World} {b : Nat} {vc vo : Value} {bw bk bc : Nat} {C : List (List Int)} {f : Int → List Int} {es : List (Int × Value)} (h : Fix S w b vc vo bw bk bc C f es) (ht : Touch S w w') : Fix S w' b vc vo bw bk bc C f es := fun _ h' => h _ (ht.trans h')
theorem Fix.now {S : Nat → Prop} {w : World} {b : Nat} {vc vo : Value} {bw bk bc : Nat} {C : List (List Int)} {f : Int → List Int} {es : List (Int × Value)} (h : Fix S w b vc vo bw bk bc C f es) : Rds w b vc vo bw bk bc C f es := h w (Touch.refl _ _)

theorem Rds.cells {w : World} {b : Nat} {vc vo : Value} {bw bk bc : Nat} {C : List (List Int)} {f : Int → List Int} {es : List (Int × Value)} (h : Rds w b vc vo bw bk bc C f es) :
    w.cell? ⟨b, 0, none⟩ = some vc ∧ w.cell? ⟨b, 1, none⟩ = some vo ∧ w.cell? ⟨b, 2, none⟩ = some (.map (some bw)) ∧ w.cell? ⟨b, 3, none⟩ = some (.map (some bk)) ∧ w.cell? ⟨b, 4, none⟩ = some (.chan (some bc)) :=
  ⟨fit_cell (vs := [vc, vo, .map (some bw), .map (some bk), .chan (some bc)]) h.blk 0, fit_cell (vs := [vc, vo, .map (some bw), .map (some bk), .chan (some bc)]) h.blk 1, fit_cell (vs := [vc, vo, .map (some bw), .map (some bk), .chan (some bc)]) h.blk 2, fit_cell (vs := [vc, vo, .map (some bw), .map (some bk), .chan (some bc)]) h.blk 3, fit_cell (vs := [vc, vo, .map (some bw), .map (some bk), .chan (some bc)]) h.blk 4⟩

/-- What changes in a state: how many literals of each clause are open, what is known, and how much of it was looked at. -/
structure Dyn (S : Nat → Prop) (w : World) (vo : Value) (bk bc cap : Nat) (O K : List Int) (d : Nat) : Prop where
  op : Rw w vo O
  kn : IM w bk (kes K)
  ch : w.heap[bc]? = some (.chan cap (ints (K.drop d)).toArray false K.length d false)
  sO : ∀ k, vo.ownBlock = some k → S k
  sK : S bk
  sC : S bc
  le : d ≤ K.length

theorem info_zero_bool (w : World) : (zeroValue 4).run Try.prog w = .ok (.bool false) w := by kernel_rfl

theorem look_known {S : Nat → Prop} {w : World} {vo : Value} {bk bc cap d : Nat} {O K : List Int} (h : Dyn S w vo bk bc cap O K d) (a : Int) :
    (Instr.lookup 100 (.map (some bk)) (.int .i64 a) false).run Try.prog w = .ok (.bool (decide (a ∈ K))) w := by
  rw [im_lookup (P := Try.prog) Try.underlying100 Try.underlying3 (info_zero_bool w) h.kn a, kes_get]

theorem dyn_apart {S : Nat → Prop} {w : World} {vo : Value} {bk bc cap d : Nat} {O K : List Int} (h : Dyn S w vo bk bc cap O K d) : vo.ownBlock ≠ some bk ∧ vo.ownBlock ≠ some bc ∧ bk ≠ bc := by
  have h1 : ∀ k, vo.ownBlock = some k → ∃ cur e m, w.heap[k]? = some (.cells cur e m) := fun k hk => by
    rcases h.op.2 with ⟨rfl, _⟩ | ⟨g, cap, cur, rfl, _, hg, _⟩
    · cases hk
    · simp only [Value.ownBlock, Option.some.injEq] at hk
      subst hk
      exact ⟨_, _, _, hg⟩
  obtain ⟨arr, c, hm, -⟩ := h.kn
  refine ⟨fun e => ?_, fun e => ?_, fun e => ?_⟩
  · obtain ⟨cur, e', m, hh⟩ := h1 _ e; rw [hm] at hh; cases hh
  · obtain ⟨cur, e', m, hh⟩ := h1 _ e; rw [h.ch] at hh; cases hh
  · rw [e, h.ch] at hm; cases hm

set_option maxRecDepth 100000 in
set_option maxHeartbeats 4000000 in
theorem prop_set (S : Nat → Prop) (b : Nat) (vc vo : Value) (bw bk bc cap d : Nat) (C : List (List Int)) (f : Int → List Int) (es : List (Int × Value)) (O K : List Int) (a : Int) (r : Bool) (w : World) (hr : decide (-a ∉ K) = r) (ha : -1048576 ≤ a ∧ a ≤ 1048576) (hF : Fix S w b vc vo bw bk bc C f es) (hD : Dyn S w vo bk bc cap O K d)
    (hcap : (setK K a).length < d + cap + 1) :
    Calls Try.prog 63 #[.pointer (some ⟨b, 0, none⟩), .int .i64 a] w fun e w' => e = .returned (.bool r) ∧ Dyn S w' vo bk bc cap O (setK K a) d ∧ Touch S w w' := by
  obtain ⟨-, -, -, hc3, hc4⟩ := hF.now.cells
  have hl1 := look_known hD (-a)
  have hl2 := look_known hD a
  have hw1 : IntKind.i64.wrap (-a) = -a := IntWalk.i64_in _ (by omega)
  by_cases h1 : -a ∈ K
  · rw [decide_eq_true h1] at hl1
    rw [decide_eq_false (by simpa using h1)] at hr
    rw [setK_neg h1]
    have HD := hid hD
    have HR := hid hr
    clear hF hD hl2 h1 hcap hr
    go_enter Try.func63, Try.ntmps63
    go_wp2_with fail
    go_ret
    exact ⟨by rw [← HR.out]; rfl, HD.out, Touch.refl _ _⟩
  · rw [decide_eq_false h1] at hl1
    rw [decide_eq_true (by simpa using h1)] at hr
    by_cases h2 : a ∈ K
    · rw [decide_eq_true h2] at hl2
      rw [setK_pos h1 h2]
      have HD := hid hD
      have HR := hid hr
      clear hF hD h1 h2 hcap hr
      go_enter Try.func63, Try.ntmps63
      go_wp2_with fail
      go_ret
      exact ⟨by rw [← HR.out]; rfl, HD.out, Touch.refl _ _⟩
    · rw [decide_eq_false h2] at hl2
      rw [setK_new h1 h2] at hcap ⊢
      obtain ⟨n1, n2, n3⟩ := dyn_apart hD
      obtain ⟨w1, hup, him, ht1, hz1⟩ := im_update (P := Try.prog) Try.underlying100 Try.underlying3 hD.kn a (.bool true)
      rw [kes_put h2] at him
      have hbS : ∀ k, k = bk → S k := fun k hk => by rw [hk]; exact hD.sK
      have ht1' : Touch S w w1 := ht1.mono fun k _ hk => hbS k hk
      have hc4' := (hF.now.cells).2.2.2.2
      have hcw1 := ((hF.next ht1').now.cells).2.2.2.2
      have hcl := (Array.getElem?_eq_some_iff.1 hD.ch).1
      have hch1 : w1.heap[bc]? = some (.chan cap (ints (K.drop d)).toArray false K.length d false) := (ht1.block bc hcl (fun e => n3 e.symm)).trans hD.ch
      have hroom : (ints (K.drop d)).toArray.size < cap := by
        simp only [List.size_toArray, ints_length, List.length_drop]
        rw [List.length_append] at hcap
        simp at hcap
        have := hD.le
        omega
      have hT := ht1'.trans ((touch_chan w1 bc cap ((ints (K.drop d)).toArray.push (.int .i64 a)) false (K.length + 1) d false).mono fun k _ hk => by rw [hk]; exact hD.sC)
      have hDn : Dyn S (w1.setChan bc cap ((ints (K.drop d)).toArray.push (.int .i64 a)) false (K.length + 1) d false) vo bk bc cap O (K ++ [a]) d := by
        have tC := touch_chan w1 bc cap ((ints (K.drop d)).toArray.push (.int .i64 a)) false (K.length + 1) d false
        refine ⟨?_, ?_, ?_, hD.sO, hD.sK, hD.sC, by have := hD.le; simp; omega⟩
        · refine rw_frame hD.op fun k hk => ?_
          have hkl := rw_lt hD.op k hk
          rw [tC.block k (by omega) (fun e => n2 (by rw [hk, e])), ht1.block k hkl (fun e => n1 (by rw [hk, e]))]
        · exact him.frame (tC.block bk (by have := him.lt; omega) n3)
        · rw [heap_setChan _ _ _ _ _ _ _ _ (by rw [hz1]; exact hcl)]
          rw [List.length_append, List.length_singleton, List.drop_append_of_le_length hD.le]
          simp [ints]
      have HT := hid hT
      have HDN := hid hDn
      have HR := hid hr
      have HCH := hid hch1
      have HROOM := hid hroom
      clear hF hD h1 h2 hcap hr n1 n2 n3 him ht1 hz1 hbS ht1' hc4' hcl hch1 hroom hT hDn
      refine calls_of_wpN Try.func63 rfl ?_
      simp only [Try.ntmps63, List.size_toArray, List.length_cons, List.length_nil, Nat.reduceAdd, Nat.reduceSub, Array.replicate_succ, Array.replicate_zero, List.push_toArray, List.append_toArray, List.nil_append, List.cons_append]
      refine wpN_seq ?_
      go_wp2_with fail
      refine wpN_seq ?_
      go_wp2_with fail
      refine wpN_seqN (wpN_seq ?_)
      go_wp2_with fail
      refine wpN_cond (t := true) rfl (wpN_seq ?_)
      go_wp2_with fail
      refine wpN_region ?_
      simp only [List.size_toArray, List.length_cons, List.length_nil, Nat.reduceAdd, List.range, List.range.loop]
      refine opsN_value rfl rfl (v := .pointer (some ⟨b, 0, none⟩)) (w' := w1) (by simp [go_sem]) ?_
      walk_nrm
      refine opsN_value rfl rfl (v := .pointer (some ⟨b, 0, none⟩)) (w' := w1) (by simp [go_sem]) ?_
      walk_nrm
      refine opsN_value rfl rfl (v := .pointer (some ⟨b, 4, none⟩)) (w' := w1) (by simp [go_sem]) ?_
      walk_nrm
      refine opsN_value rfl rfl (v := .chan (some bc)) (w' := w1) (by simp [go_sem, hcw1]) ?_
      walk_nrm
      refine opsN_value rfl rfl (v := .int .i64 a) (w' := w1) (by simp [go_sem]) ?_
      walk_nrm
      refine opsN_send (z := .tuple #[]) (v := .int .i64 a) rfl rfl (by simp [go_sem, scase]) HCH.out HROOM.out ?_
      walk_nrm
      refine opsN_end ?_
      refine wpN_of_wp ?_
      go_wp2_with fail
      go_ret
      exact ⟨by rw [← HR.out]; rfl, by simpa only [List.push_toArray] using HDN.out, by simpa only [List.push_toArray] using HT.out⟩

set_option maxRecDepth 100000 in
set_option maxHeartbeats 4000000 in
theorem prop_unit (S : Nat → Prop) (b : Nat) (vc vo : Value) (bw bk bc cap d : Nat) (C : List (List Int)) (f : Int → List Int) (es : List (Int × Value)) (O K xs : List Int) (i : Nat) (r : Bool) (w : World) (hi : C[i]? = some xs) (hr : unitR K xs = r) (ha : ∀ a ∈ xs, -1048576 ≤ a ∧ a ≤ 1048576) (hxl : xs.length ≤ 4294967296) (hF : Fix S w b vc vo bw bk bc C f es) (hD : Dyn S w vo bk bc cap O K d)
    (hcap : (unitK K xs).length < d + cap + 1) :
    Calls Try.prog 82 #[.pointer (some ⟨b, 0, none⟩), .int .i64 i] w fun e w' => e = .returned (.bool r) ∧ Dyn S w' vo bk bc cap O (unitK K xs) d ∧ Touch S w w' := by
  obtain ⟨hc0, -, -, hc3, -⟩ := hF.now.cells
  obtain ⟨ac, cc, rfl, hcls⟩ := hF.now.cls
  obtain ⟨g, o, u, rfl, hcu, hu⟩ := hcls i xs hi
  obtain ⟨au, cu, rfl, -, -, hsu⟩ := hu
  have hil : (i : Int) < C.length := by have := (List.getElem?_eq_some_iff.1 hi).1; omega
  have HD := hid hD
  have HF := hid hF
  have HR := hid hr
  have HA := hid ha
  have HSU := hid hsu
  have HCAP := hid hcap
  clear hD hF hr ha hsu hcap hcls hi
  go_enter Try.func82, Try.ntmps82
  go_wp2_with fail
  go_loop [15] (fun s15 => ∃ k : Nat, s15 = .int .i64 k ∧ k ≤ xs.length ∧ Hid (∀ y ∈ xs.take k, -y ∈ K)) (fun s15 => (xs.length - (intOf s15)).toNat)
  case atStart => exact ⟨0, rfl, Nat.zero_le _, by simp [Hid]⟩
  case round =>
    obtain ⟨k, rfl, hk, hh⟩ := hrel
    by_cases hlt : k < xs.length
    · obtain ⟨bo, oo, x, rfl, hcx, hxk⟩ := HSU.out.int hlt
      have hxb := HA.out x (List.mem_of_getElem? hxk)
      have hw1 : IntKind.i64.wrap (-x) = -x := IntWalk.i64_in _ (by omega)
      have hwk : IntKind.i64.wrap ((k : Int) + 1) = (k : Int) + 1 := IntWalk.i64_in _ (by omega)
      have hl1 := look_known HD.out (-x)
      by_cases hn : -x ∈ K
      · rw [decide_eq_true hn] at hl1
        have HN := hid (unit_skip hh.out hxk hn)
        clear hn hxk
        go_wp2_with fail
        go_round
        case rel => exact ⟨k + 1, by simp, hlt, HN⟩
        case measure => simp [intOf]; omega
      · rw [decide_eq_false hn] at hl1
        obtain ⟨e1, e2⟩ := unit_hit hh.out hxk hn
        have hr1 : r = true := by rw [← HR.out]; exact e1
        have HE2 := hid e2
        have HN := hid hn
        clear hn hxk e1 e2
        go_wp2_with fail
        refine (prop_set S b _ vo bw bk bc cap d C f es O K x true _ (by simpa using HN.out) hxb HF.out HD.out (by rw [← HE2.out]; exact HCAP.out)).mono ?_
        rintro e w2 ⟨rfl, h2, ht2⟩
        have H2 := hid h2
        have HT := hid ht2
        clear h2 ht2
        go_wp2_with fail
        go_ret
        exact ⟨by rw [hr1]; rfl, by rw [HE2.out]; exact H2.out, HT.out⟩
    · obtain ⟨e1, e2⟩ := unit_none hh.out (by omega)
      have hr1 : r = false := by rw [← HR.out]; exact e1
      have HE2 := hid e2
      have HR1 := hid hr1
      clear e1 e2 hr1
      go_wp2_with fail
      go_ret
      exact ⟨by rw [HR1.out]; rfl, by rw [HE2.out]; exact HD.out, Touch.refl _ _⟩

end Go.Proofs.Ytfofabbnbmieoaa.Ord

/- The contract of prop's run. -/
namespace Go.Proofs.Ytfofabbnbmieoaa.Ord
open Go.RowKit Go.Conc

/-- How many receives a channel has seen. -/
def rcvd (w : World) (c : Nat) : Nat := match w.heap[c]? with
  | some (.chan _ _ _ _ r _) => r
  | _ => 0

theorem rcvd_dyn {S : Nat → Prop} {w : World} {vo : Value} {bk bc cap d : Nat} {O K : List Int} (h : Dyn S w vo bk bc cap O K d) : rcvd w bc = d := by
  unfold rcvd; rw [h.ch]

theorem len_chan {P : Program} {w : World} {t e : TypeId} {dir : ChanDir} (ht : P.underlying t = some (.chan dir e)) {c cap s r : Nat} {buf : Array Value} {cl tm : Bool} (h : w.heap[c]? = some (.chan cap buf cl s r tm)) (htm : tm = false) (ty : TypeId) :
    (Builtin.len_ #[t] ty #[.chan (some c)]).run P w = .ok (.int .i64 buf.size) w := by
  have hg : (getObj c).run P w = .ok (.chan cap buf cl s r tm) w := by simp [getObj, Sem.run, h]
  simp [Builtin.len_, run_underlying ht, hg, Result.andThen, htm]
  rfl

/-- The head of a round of run's outer loop. -/
def runI (S : Nat → Prop) (b : Nat) (vc vo : Value) (bw bk bc n : Nat) (C : List (List Int)) (es : List (Int × Value)) (A : List Int) (w0 : World) (a : Act) (wr : World) : Prop :=
  ∃ (O K : List Int) (d : Nat), Hid (Fix S wr b vc vo bw bk bc C (withL C) es) ∧ Hid (Dyn S wr vo bk bc (n + 1) O K d) ∧ Hid (PI n C A O K d) ∧ Hid (Touch S w0 wr) ∧ ∃ u1 u2 u3 u4 u5 u6 u7 u8 u9 u10 u11 u12 u13 u14 u15 u16 u17 u18 u19 u20 u21 u22 u23 u24 u25 u26 u27 u28 u29 u30 u31 u32 u33 u34 u35 u36 u37 u38 u39 u40 u41 u42 u43 u44 u45 u46 u47 u48 u49 u50 u51 u52 : Value, a = ⟨#[.pointer (some ⟨b, 0, none⟩), u1, u2, u3, u4, u5, u6, u7, u8, u9, u10, u11, u12, u13, u14, u15, u16, u17, u18, u19, u20, u21, u22, u23, u24, u25, u26, u27, u28, u29, u30, u31, u32, u33, u34, u35, u36, u37, u38, u39, u40, u41, u42, u43, u44, u45, u46, u47, u48, u49, u50, u51, u52], []⟩

/-- What run leaves. -/
def runR (S : Nat → Prop) (bk n : Nat) (C : List (List Int)) (A : List Int) (w0 : World) (e : Ending) (w' : World) : Prop :=
  Touch S w0 w' ∧ ((e = .returned (.bool true) ∧ ∃ K, Closed C A K ∧ (∀ a ∈ K, LitOk n a) ∧ IM w' bk (kes K)) ∨ (e = .returned (.bool false) ∧ Bad C A))

theorem cntO_bounds (c D : List Int) : 0 ≤ cntO c D ∧ cntO c D ≤ c.length := by
  unfold cntO
  have := List.length_filter_le (fun l => decide (-l ∉ D)) c
  omega

theorem ow_open {S : Nat → Prop} {w : World} {vo : Value} {bk bc cap d : Nat} {O K : List Int} (h : Dyn S w vo bk bc cap O K d) {j : Nat} {o : Int} (ho : O[j]? = some o) :
    ∃ g c, vo = .slice (some ⟨g, 0, none⟩) O.length c ∧ w.cell? ⟨g, j, none⟩ = some (.int .i64 o) ∧ w.frozen? ⟨g, j, none⟩ = false ∧ S g := by
  obtain ⟨hj, hoe⟩ := List.getElem?_eq_some_iff.1 ho
  obtain ⟨g, c, rfl⟩ := rw_form h.op (by omega)
  exact ⟨g, c, rfl, by rw [rw_get h.op rfl hj, hoe], rw_free h.op rfl j, h.sO g rfl⟩

theorem dyn_store {S : Nat → Prop} {w : World} {g c : Nat} {bk bc cap d : Nat} {O K : List Int} (h : Dyn S w (.slice (some ⟨g, 0, none⟩) O.length c) bk bc cap O K d) (j : Nat) (x : Int) :
    Dyn S (w.setCell ⟨g, j, none⟩ (.int .i64 x)) (.slice (some ⟨g, 0, none⟩) O.length c) bk bc cap (O.set j x) K d ∧ Touch S w (w.setCell ⟨g, j, none⟩ (.int .i64 x)) := by
  obtain ⟨n1, n2, n3⟩ := dyn_apart h
  have hf : ∀ k, k ≠ g → (w.setCell ⟨g, j, none⟩ (.int .i64 x)).heap[k]? = w.heap[k]? := fun k hk => Below.heap_setCell w ⟨g, j, none⟩ _ k hk
  have h1 := rw_set h.op rfl j x
  exact ⟨⟨h1, h.kn.frame (hf bk (fun e => n1 (by rw [e]; rfl))), (hf bc (fun e => n2 (by rw [e]; rfl))).trans h.ch, h.sO, h.sK, h.sC, h.le⟩, (Touch.refl S w).setCell (h.sO g rfl) _⟩

theorem dyn_recv {S : Nat → Prop} {w : World} {vo : Value} {bk bc cap d : Nat} {O K : List Int} (h : Dyn S w vo bk bc cap O K d) (hd : d < K.length) :
    Dyn S (w.setChan bc cap ((ints (K.drop d)).toArray.extract 1 (ints (K.drop d)).toArray.size) false K.length (d + 1) false) vo bk bc cap O K (d + 1) ∧ Touch S w (w.setChan bc cap ((ints (K.drop d)).toArray.extract 1 (ints (K.drop d)).toArray.size) false K.length (d + 1) false) := by
  obtain ⟨n1, n2, n3⟩ := dyn_apart h
  have tC := touch_chan w bc cap ((ints (K.drop d)).toArray.extract 1 (ints (K.drop d)).toArray.size) false K.length (d + 1) false
  have hcl := (Array.getElem?_eq_some_iff.1 h.ch).1
  refine ⟨⟨rw_frame h.op fun k hk => tC.block k (rw_lt h.op k hk) (fun e => n2 (by rw [hk, e])), h.kn.frame (tC.block bk h.kn.lt n3), ?_, h.sO, h.sK, h.sC, hd⟩, tC.mono fun k _ hk => by rw [hk]; exact h.sC⟩
  rw [heap_setChan _ _ _ _ _ _ _ _ hcl]
  congr 2
  apply Array.ext'
  simp [ints]
  exact List.take_of_length_le (by simp; omega)

set_option maxRecDepth 100000 in
set_option maxHeartbeats 8000000 in
theorem prop_run (S : Nat → Prop) (b : Nat) (vc vo : Value) (bw bk bc d n : Nat) (C : List (List Int)) (es : List (Int × Value)) (A O K : List Int) (w : World) (hn : n ≤ 1048576) (hCl : C.length ≤ 4294967296) (hcl : ∀ c ∈ C, c.length ≤ 4294967296) (hF : Fix S w b vc vo bw bk bc C (withL C) es) (hD : Dyn S w vo bk bc (n + 1) O K d) (hP : PI n C A O K d) :
    Calls Try.prog 64 #[.pointer (some ⟨b, 0, none⟩)] w (runR S bk n C A w) := by
  have HF := hid hF
  have HD := hid hD
  have HP := hid hP
  have HCL := hid hcl
  clear hF hD hP hcl
  refine calls_of_wpN Try.func64 rfl ?_
  simp only [Try.ntmps64, List.size_toArray, List.length_cons, List.length_nil, Nat.reduceAdd, Nat.reduceSub, Array.replicate_succ, Array.replicate_zero, List.push_toArray, List.append_toArray, List.nil_append, List.cons_append]
  refine wpN_seq ?_
  go_wp2_with fail
  refine wpN_seqN (wpN_block (wpN_loop (runI S b vc vo bw bk bc n C es A w) (fun _ wr => n + 1 - rcvd wr bc) ?h0 ?round))
  case h0 =>
    refine ⟨O, K, d, HF, HD, HP, Touch.refl _ _, ?_⟩
    repeat (apply Exists.intro)
    rfl
  case round =>
    clear HF HD HP
    rintro a wr ⟨O, K, d, HF, HD, HP, HT, u1, u2, u3, u4, u5, u6, u7, u8, u9, u10, u11, u12, u13, u14, u15, u16, u17, u18, u19, u20, u21, u22, u23, u24, u25, u26, u27, u28, u29, u30, u31, u32, u33, u34, u35, u36, u37, u38, u39, u40, u41, u42, u43, u44, u45, u46, u47, u48, u49, u50, u51, u52, rfl⟩
    obtain ⟨-, hc1, hc2, hc3, hc4⟩ := HF.out.now.cells
    have hlen := fun ty => len_chan (P := Try.prog) Try.underlying101 HD.out.ch rfl ty
    have hsz : (ints (K.drop d)).toArray.size = K.length - d := by simp
    rw [hsz] at hlen
    have hkn := lits_le HP.out.knod HP.out.cons HP.out.kok
    have hde := HP.out.le
    by_cases hlt : d < K.length
    · have hd0 : decide ((0 : Int) < ((K.length - d : Nat) : Int)) = true := decide_eq_true (by omega)
      refine wpN_seq ?_
      go_wp2_with fail
      rename_i hpos
      rw [decide_eq_true hpos]
      clear hpos hd0
      refine wpN_block (wpN_seqN ?_)
      refine wpN_region ?_
      simp only [List.size_toArray, List.length_cons, List.length_nil, Nat.reduceAdd, List.range, List.range.loop]
      obtain ⟨x, hx⟩ : ∃ x, K[d]? = some x := ⟨_, List.getElem?_eq_getElem hlt⟩
      have hbuf : (ints (K.drop d)).toArray.getD 0 undef = .int .i64 x := by
        obtain ⟨h1, h2⟩ := List.getElem?_eq_some_iff.1 hx
        rw [List.drop_eq_getElem_cons h1, h2]
        rfl
      obtain ⟨hD2, hT2⟩ := dyn_recv HD.out hlt
      refine opsN_value rfl rfl (v := .pointer (some ⟨b, 0, none⟩)) (w' := wr) (by simp [go_sem]) ?_
      walk_nrm
      refine opsN_value rfl rfl (v := .pointer (some ⟨b, 0, none⟩)) (w' := wr) (by simp [go_sem]) ?_
      walk_nrm
      refine opsN_value rfl rfl (v := .pointer (some ⟨b, 4, none⟩)) (w' := wr) (by simp [go_sem]) ?_
      walk_nrm
      refine opsN_value rfl rfl (v := .chan (some bc)) (w' := wr) (by simp [go_sem, hc4]) ?_
      walk_nrm
      refine opsN_recv (z := .int .i64 0) rfl rfl (by simp [go_sem, rcase]; done) HD.out.ch (by rw [hsz]; omega) ?_
      rw [hbuf]
      generalize hw2 : wr.setChan bc _ _ _ _ _ _ = w2 at hD2 hT2 ⊢
      walk_nrm
      refine opsN_value rfl rfl (v := .int .i64 x) (w' := w2) (by simp [go_sem]) ?_
      walk_nrm
      refine opsN_end ?_
      refine wpN_of_wp ?_
      have HJ := hid (pj_start HP.out hx)
      have HF2 := hid (HF.out.next hT2)
      have HT2 := hid (HT.out.trans hT2)
      have HD2 := hid hD2
      have HDE := hid hw2
      have hxk := HP.out.kok x (List.mem_of_getElem? hx)
      have hxb : -1048576 ≤ x ∧ x ≤ 1048576 := by unfold LitOk at hxk; omega
      have hr0 : rcvd wr bc = d := rcvd_dyn HD.out
      have HR0 := hid hr0
      clear hD2 hT2 hw2 hx hbuf hlen hsz hxk hr0 hc1 hc2 hc3 hc4
      have hwx : IntKind.i64.wrap (-x) = -x := IntWalk.i64_in _ (by omega)
      obtain ⟨-, -, hc2, -, -⟩ := HF2.out.now.cells
      obtain ⟨hes, hrows⟩ := HF2.out.now.wth
      obtain ⟨aw, cw, hval, hwl, hwn, hsw⟩ := hrows (-x)
      have hlook := im_lookup (P := Try.prog) Try.underlying99 Try.underlying3 (z := .slice none 0 0) (by kernel_rfl) hes (-x)
      rw [hval] at hlook
      have HVAL := hid hval
      have hLb : (withL C (-x)).length ≤ 4294967296 := by
        have h1 : (withL C (-x)).length ≤ C.length := by
          unfold withL
          rw [List.length_map]
          have := List.length_filter_le (fun i => decide (-x ∈ C.getD i [])) (List.range C.length)
          rw [List.length_range] at this
          exact this
        omega
      clear hes hrows hval hsw hwn hwl
      go_wp2_with fail
      clear hlook hc2
      go_loopw [25] (fun s25 wq => ∃ (m : Nat) (O' K' : List Int), s25 = .int .i64 m ∧ m ≤ (withL C (-x)).length ∧ Hid (Fix S wq b vc vo bw bk bc C (withL C) es) ∧ Hid (Dyn S wq vo bk bc (n + 1) O' K' (d + 1)) ∧ Hid (PJ n C A O' K' d x m) ∧ Hid (Touch S w wq)) (fun s25 _ => ((withL C (-x)).length - (intOf s25)).toNat)
      case atStart => exact ⟨0, O, K, rfl, Nat.zero_le _, HF2, HD2, HJ, HT2⟩
      case round =>
        obtain ⟨m, O', K', rfl, hm, HFq, HDq, HJq, HTq⟩ := hrel
        by_cases hml : m < (withL C (-x)).length
        · obtain ⟨i, hi⟩ : ∃ i, (withL C (-x))[m]? = some i := ⟨_, List.getElem?_eq_getElem hml⟩
          obtain ⟨j, c, o, hij, hc, ho, hcnt, -, -⟩ := pj_turn HJq.out hi
          subst hij
          obtain ⟨-, hc1, -, -, -⟩ := HFq.out.now.cells
          obtain ⟨hes, hrows⟩ := HFq.out.now.wth
          obtain ⟨aq, cq, hval, -, -, hsq⟩ := hrows (-x)
          rw [HVAL.out] at hval
          injection hval with hv1 hv2 hv3
          subst hv1
          subst hv3
          obtain ⟨ba, oa, i', rfl, hci, hi'⟩ := hsq.int hml
          have hii : i' = (j : Int) := by rw [hi] at hi'; exact (Option.some.inj hi').symm
          subst hii
          obtain ⟨g, cg, rfl, hco, hfo, hSg⟩ := ow_open HDq.out ho
          have hob := cntO_bounds c (K.take (d + 1))
          have hcb := HCL.out c (List.mem_of_getElem? hc)
          have hob2 : -1 ≤ o - 1 ∧ o - 1 ≤ 4294967296 := by
            have := cntO_bounds c (K'.take (d + 1))
            omega
          have hw1 : IntKind.i64.wrap (o - 1) = o - 1 := IntWalk.i64_in _ (by omega)
          have hwm : IntKind.i64.wrap ((m : Int) + 1) = (m : Int) + 1 := IntWalk.i64_in _ (by omega)
          have hjl : (j : Int) < O'.length := by have := (List.getElem?_eq_some_iff.1 ho).1; omega
          have hmi : (m : Int) < (withL C (-x)).length := by omega
          obtain ⟨hDs, hTs⟩ := dyn_store HDq.out j (o - 1)
          have HDs := hid hDs
          have HFs := hid (HFq.out.next hTs)
          have HTs := hid (HTq.out.trans hTs)
          have hKl := lits_le HJq.out.knod HJq.out.cons HJq.out.kok
          have hcells := (HFs.out.now.cells).2.1
          have HHI := hid hi
          have HHO := hid ho
          have HHC := hid hc
          clear hDs hTs hes hrows hsq hi hi' ho hc hcnt hob hcb
          by_cases h1 : o - 1 ≤ 1
          · have d1 : decide (o - 1 ≤ 1) = true := decide_eq_true h1
            cases hr : unitR K' c with
            | true =>
              have hJn := pj_unit HJq.out HHI.out rfl HHO.out HHC.out h1 hr
              have hln := lits_le hJn.knod hJn.cons hJn.kok
              have HJn := hid hJn
              have HR := hid hr
              clear hJn hr
              go_wp2_with fail
              refine (prop_unit S b vc _ bw bk bc (n + 1) (d + 1) C (withL C) es (O'.set j (o - 1)) K' c j true _ HHC.out HR.out (fun a ha => by have := HJq.out.cok c (List.mem_of_getElem? HHC.out) a ha; unfold LitOk at this; omega) (HCL.out c (List.mem_of_getElem? HHC.out)) HFs.out HDs.out (by omega)).mono ?_
              rintro e w5 ⟨rfl, h5, ht5⟩
              have HD5 := hid h5
              have HF5 := hid (HFs.out.next ht5)
              have HT5 := hid (HTs.out.trans ht5)
              clear h5 ht5
              go_wp2_with fail
              go_roundw
              case rel => exact ⟨m + 1, O'.set j (o - 1), unitK K' c, by simp, hml, HF5, HD5, HJn, HT5⟩
              case measure => simp [intOf]; omega
            | false =>
              have hbad := pj_bad HJq.out HHC.out hr
              have hul : unitK K' c = K' := by
                unfold unitK
                rw [List.find?_eq_none.2 (fun y hy => by have := List.any_eq_false.1 hr y hy; simpa using this)]
                rfl
              have HR := hid hr
              have HUL := hid hul
              have HB := hid hbad
              clear hr hul hbad
              go_wp2_with fail
              refine (prop_unit S b vc _ bw bk bc (n + 1) (d + 1) C (withL C) es (O'.set j (o - 1)) K' c j false _ HHC.out HR.out (fun a ha => by have := HJq.out.cok c (List.mem_of_getElem? HHC.out) a ha; unfold LitOk at this; omega) (HCL.out c (List.mem_of_getElem? HHC.out)) HFs.out HDs.out (by rw [HUL.out]; omega)).mono ?_
              rintro e w5 ⟨rfl, h5, ht5⟩
              have HT5 := hid (HTs.out.trans ht5)
              clear h5 ht5
              go_wp2_with fail
              go_ret
              exact ⟨HT5.out, .inr ⟨rfl, HB.out⟩⟩
          · have d1 : decide (o - 1 ≤ 1) = false := decide_eq_false h1
            have hJn := pj_open HJq.out HHI.out rfl HHO.out h1
            have HJn := hid hJn
            clear hJn
            go_wp2_with fail
            go_roundw
            case rel => exact ⟨m + 1, O'.set j (o - 1), K', by simp, hml, HFs, HDs, HJn, HTs⟩
            case measure => simp [intOf]; omega
        · have hJe := hid (pj_end HJq.out (by omega))
          have hKl := lits_le HJq.out.knod HJq.out.cons HJq.out.kok
          have hdl := HDq.out.le
          have hrq := hid (rcvd_dyn HDq.out)
          go_wp2_with fail
          refine ⟨⟨O', K', d + 1, HFq, HDq, hJe, HTq, ?_⟩, ?_⟩
          · repeat (apply Exists.intro)
            rfl
          · rw [hrq.out, HR0.out]
            omega
    · have hde2 : d = K.length := by omega
      have hd0 : decide ((0 : Int) < ((K.length - d : Nat) : Int)) = false := decide_eq_false (by omega)
      have hd0n : decide (0 < K.length - d) = false := decide_eq_false (by omega)
      have HCLO := hid (pi_closed HP.out (by omega))
      refine wpN_seq ?_
      go_wp2_with fail
      refine wpN_of_wp ?_
      go_wp2_with fail
      go_ret
      exact ⟨HT.out, .inl ⟨rfl, K, HCLO.out, HP.out.kok, HD.out.kn⟩⟩

end Go.Proofs.Ytfofabbnbmieoaa.Ord

/- How prop's state lies in memory while Units builds it. -/
namespace Go.Proofs.Ytfofabbnbmieoaa.Ord
open Go.RowKit Go.Conc

theorem own_frame0 {w w' : World} {B e s n : Nat} {v : Value} {xs : List Value} (h : w.ownsRow B e s v n xs) (hk : ∀ g, v.ownBlock = some g → w'.heap[g]? = w.heap[g]?) : w'.ownsRow B e s v n xs := by
  refine ⟨h.1, ?_⟩
  rcases h.2 with h0 | ⟨g, cap, cur, e1, e2, e3, e4⟩
  · exact .inl h0
  · exact .inr ⟨g, cap, cur, e1, e2, by rw [hk g (by rw [e1]; rfl)]; exact e3, e4⟩
theorem own_lenV' {w : World} {B e s n : Nat} {v : Value} {xs : List Value} (h : w.ownsRow B e s v n xs) : ∃ a c, v = .slice a n c := by
  rcases h.2 with ⟨rfl, rfl⟩ | ⟨g, cap, cur, rfl, _⟩
  · exact ⟨_, _, rfl⟩
  · exact ⟨_, _, rfl⟩
theorem own_slv {w : World} {B e n m c : Nat} {a : Option Addr} {xs : List Value} (h : w.ownsRow B e 1 (.slice a n c) m xs) : SlV w a xs := by
  obtain ⟨a', c', h1, -, -, h4⟩ := own_sl h
  injection h1 with h5
  rw [h5]
  exact h4
theorem own_zero {w : World} {B e n : Nat} {v : Value} {xs : List Value} (h : w.ownsRow B e 1 v n xs) : w.ownsRow 0 e 1 v n xs := ⟨h.1, h.2.imp_right fun ⟨g, cap, cur, e1, _, e3⟩ => ⟨g, cap, cur, e1, Nat.zero_le _, e3⟩⟩

theorem own_rebase {w : World} {B e n : Nat} {v : Value} {xs : List Value} (h : w.ownsRow 0 e 1 v n xs) (hB : ∀ g, v.ownBlock = some g → B ≤ g) : w.ownsRow B e 1 v n xs := ⟨h.1, h.2.imp_right fun ⟨g, cap, cur, e1, _, e3⟩ => ⟨g, cap, cur, e1, hB g (by rw [e1]; rfl), e3⟩⟩

theorem Touch.trans' {S T : Nat → Prop} {a b c : World} (h : Touch S a b) (k : Touch T b c) (hs : ∀ i, i < a.heap.size → T i → S i) : Touch S a c :=
  ⟨k.os.trans h.os, k.tape.trans h.tape, k.output.trans h.output, Nat.le_trans h.size k.size, fun i hi hn => (k.block i (by have := h.size; omega) (fun e => hn (hs i hi e))).trans (h.block i hi hn)⟩

/-- What a block of ints of the call's own is for. -/
inductive Tag where
  | cls
  | opn
  | wth (k : Int)

def nilS : Value := .slice none 0 0

/-- A clause's literals in a block that is for clauses. -/
def OwnTg (w : World) (tag : Nat → Tag) (u : Value) (xs : List Int) : Prop :=
  ∃ a c, u = .slice a xs.length c ∧ xs.length ≤ c ∧ (a = none → c = 0) ∧ ∀ ad, a = some ad → ∃ g off cur, ad = ⟨g, off, none⟩ ∧ tag g = .cls ∧ w.heap[g]? = some (.cells cur 3 (0, 0)) ∧ ∀ j x, xs[j]? = some x → cur[off + j]? = some (.int .i64 x)

theorem OwnTg.frame {w w' : World} {tag tag' : Nat → Tag} {u : Value} {xs : List Int} (h : OwnTg w tag u xs) (hk : ∀ g, g < w.heap.size → tag g = .cls → w'.heap[g]? = w.heap[g]? ∧ tag' g = .cls) : OwnTg w' tag' u xs := by
  obtain ⟨a, c, h1, h2, h3, h4⟩ := h
  refine ⟨a, c, h1, h2, h3, fun ad had => ?_⟩
  obtain ⟨g, off, cur, e1, e2, e3, e4⟩ := h4 ad had
  obtain ⟨q1, q2⟩ := hk g (Array.getElem?_eq_some_iff.1 e3).1 e2
  exact ⟨g, off, cur, e1, q2, q1.trans e3, e4⟩

theorem OwnTg.sli {w : World} {tag : Nat → Tag} {u : Value} {xs : List Int} (h : OwnTg w tag u xs) : SlI w u xs := by
  obtain ⟨a, c, h1, h2, h3, h4⟩ := h
  refine ⟨a, c, h1, h2, h3, fun j v hj => ?_⟩
  cases a with
  | none =>
    have h0 : xs = [] := List.length_eq_zero_iff.1 (by have := h3 rfl; omega)
    subst h0
    cases hj
  | some ad =>
    obtain ⟨g, off, cur, rfl, -, e3, e4⟩ := h4 ad rfl
    simp only [ints, List.getElem?_map, Option.map_eq_some_iff] at hj
    obtain ⟨x, hx, rfl⟩ := hj
    refine ⟨g, off, rfl, ?_⟩
    rw [cell_of_row _ _ _ _ _ _ e3]
    exact e4 j x hx

structure BSt (tag : Nat → Tag) (B : Nat) (w0 w : World) (bx : Nat) (vc vo : Value) (bw bk bc cap : Nat) (C : List (List Int)) (f : Int → List Int) (es : List (Int × Value)) (K : List Int) : Prop where
  bel : Below B w0 w
  le : B ≤ w.heap.size
  blk : w.heap[bx]? = some (.cells #[vc, vo, .map (some bw), .map (some bk), .chan (some bc)] 103)
  bxB : B ≤ bx
  cls : ∃ us, w.ownsRow B 22 1 vc C.length us ∧ ∀ (i : Nat) xs, C[i]? = some xs → ∃ u, us[i]? = some u ∧ OwnTg w tag u xs
  op : w.ownsRow B 3 1 vo C.length (ints (C.map fun c => (c.length : Int)))
  opt : ∀ g, vo.ownBlock = some g → tag g = .opn
  wi : IM w bw es
  wB : B ≤ bw
  wr : ∀ k, w.ownsRow B 3 1 ((aget es k).getD nilS) (f k).length (ints (f k))
  wt : ∀ k g, ((aget es k).getD nilS).ownBlock = some g → tag g = .wth k
  kn : IM w bk (kes K)
  kB : B ≤ bk
  ch : w.heap[bc]? = some (.chan cap (ints K).toArray false K.length 0 false)
  cB : B ≤ bc
  ne : bw ≠ bk

section
variable {tag : Nat → Tag} {B : Nat} {w0 w : World} {bx : Nat} {vc vo : Value} {bw bk bc cap : Nat} {C : List (List Int)} {f : Int → List Int} {es : List (Int × Value)} {K : List Int}

theorem own_cells {e n : Nat} {v : Value} {xs : List Value} (h : w.ownsRow B e 1 v n xs) {g : Nat} (hg : v.ownBlock = some g) : ∃ cur, w.heap[g]? = some (.cells cur e (0, 0)) := by
  rcases h.2 with ⟨rfl, _⟩ | ⟨g', cap', cur, rfl, _, hh, _⟩
  · cases hg
  · simp only [Value.ownBlock, Option.some.injEq] at hg
    subst hg
    exact ⟨cur, hh⟩

/-- All that was there is as it was. -/
theorem BSt.grow (h : BSt tag B w0 w bx vc vo bw bk bc cap C f es K) {w' : World} (hb : Below w.heap.size w w') {tag' : Nat → Tag} (ht : ∀ g, g < w.heap.size → tag' g = tag g) : BSt tag' B w0 w' bx vc vo bw bk bc cap C f es K := by
  have hf : ∀ k, k < w.heap.size → w'.heap[k]? = w.heap[k]? := fun k hk => hb.block k hk
  obtain ⟨us, hu1, hu2⟩ := h.cls
  refine ⟨h.bel.trans (hb.mono h.le), Nat.le_trans h.le hb.size, (hf bx (Array.getElem?_eq_some_iff.1 h.blk).1).trans h.blk, h.bxB, ⟨us, own_frame0 hu1 fun g hg => hf g (hu1.lt g hg).2, fun i xs hi => ?_⟩, own_frame0 h.op fun g hg => hf g (h.op.lt g hg).2, fun g hg => (ht g (h.op.lt g hg).2).trans (h.opt g hg), h.wi.frame (hf bw h.wi.lt), h.wB, fun k => own_frame0 (h.wr k) fun g hg => hf g ((h.wr k).lt g hg).2, fun k g hg => (ht g ((h.wr k).lt g hg).2).trans (h.wt k g hg), h.kn.frame (hf bk h.kn.lt), h.kB, (hf bc (Array.getElem?_eq_some_iff.1 h.ch).1).trans h.ch, h.cB, h.ne⟩
  obtain ⟨u, hu, ho⟩ := hu2 i xs hi
  exact ⟨u, hu, ho.frame fun g hg ht' => ⟨hf g hg, (ht g hg).trans ht'⟩⟩

theorem BSt.drewB (h : BSt tag B w0 w bx vc vo bw bk bc cap C f es K) : BSt tag B w0 w.drew bx vc vo bw bk bc cap C f es K := h.grow (below_dr (Below.refl _ _) 1) fun _ _ => rfl

/-- The blocks that set, unit and run write. -/
def wS (vo : Value) (bk bc k : Nat) : Prop := vo.ownBlock = some k ∨ k = bk ∨ k = bc

theorem BSt.notS (h : BSt tag B w0 w bx vc vo bw bk bc cap C f es K) : ¬ wS vo bk bc bx ∧ (∀ g, vc.ownBlock = some g → ¬ wS vo bk bc g) ∧ ¬ wS vo bk bc bw ∧ (∀ g, tag g = .cls → g < w.heap.size → (∃ cur, w.heap[g]? = some (.cells cur 3 (0, 0))) → ¬ wS vo bk bc g) ∧ ∀ k g, ((aget es k).getD nilS).ownBlock = some g → ¬ wS vo bk bc g := by
  obtain ⟨arrk, ck, hkm, -⟩ := h.kn
  obtain ⟨arrw, cw, hwm, -⟩ := h.wi
  obtain ⟨us, hu1, hu2⟩ := h.cls
  have hvo : ∀ g, vo.ownBlock = some g → ∃ cur, w.heap[g]? = some (.cells cur 3 (0, 0)) := fun g hg => own_cells h.op hg
  refine ⟨?_, fun g hg => ?_, ?_, fun g ht hl hc => ?_, fun k g hg => ?_⟩
  · rintro (e | e | e)
    · obtain ⟨cur, hc⟩ := hvo _ e; rw [h.blk] at hc; simp at hc
    · rw [← e, h.blk] at hkm; cases hkm
    · have := h.ch; rw [← e, h.blk] at this; cases this
  · obtain ⟨cur, hc⟩ := own_cells hu1 hg
    rintro (e | e | e)
    · obtain ⟨cur2, hc2⟩ := hvo _ e; rw [hc] at hc2; simp at hc2
    · rw [← e, hc] at hkm; cases hkm
    · have := h.ch; rw [← e, hc] at this; cases this
  · rintro (e | e | e)
    · obtain ⟨cur2, hc2⟩ := hvo _ e; rw [hwm] at hc2; cases hc2
    · exact h.ne e
    · have := h.ch; rw [← e, hwm] at this; cases this
  · obtain ⟨cur, hc⟩ := hc
    rintro (e | e | e)
    · have := h.opt g e; rw [ht] at this; cases this
    · rw [← e, hc] at hkm; cases hkm
    · have := h.ch; rw [← e, hc] at this; cases this
  · obtain ⟨cur, hc⟩ := own_cells (h.wr k) hg
    have ht := h.wt k g hg
    rintro (e | e | e)
    · have := h.opt g e; rw [ht] at this; cases this
    · rw [← e, hc] at hkm; cases hkm
    · have := h.ch; rw [← e, hc] at this; cases this

theorem BSt.fix (h : BSt tag B w0 w bx vc vo bw bk bc cap C f es K) : Fix (wS vo bk bc) w bx vc vo bw bk bc C f es := fun w' ht => by
  obtain ⟨n1, n2, n3, n4, n5⟩ := h.notS
  obtain ⟨us, hu1, hu2⟩ := h.cls
  refine ⟨(ht.block bx (Array.getElem?_eq_some_iff.1 h.blk).1 n1).trans h.blk, ?_, h.wi.frame (ht.block bw h.wi.lt n3), fun k => ?_⟩
  · have hu1' : w'.ownsRow B 22 1 vc C.length us := own_frame0 hu1 fun g hg => ht.block g (hu1.lt g hg).2 (n2 g hg)
    obtain ⟨a, c, rfl⟩ := own_lenV' hu1
    refine ⟨a, c, rfl, fun i xs hi => ?_⟩
    obtain ⟨u, hu, ho⟩ := hu2 i xs hi
    obtain ⟨g, o, he, hc⟩ := (own_slv hu1') i u hu
    have ho' : OwnTg w' tag u xs := by
      obtain ⟨a, c, h1, h2, h3, h4⟩ := ho
      refine ⟨a, c, h1, h2, h3, fun ad had => ?_⟩
      obtain ⟨g, off, cur, e1, e2, e3, e4⟩ := h4 ad had
      exact ⟨g, off, cur, e1, e2, (ht.block g (Array.getElem?_eq_some_iff.1 e3).1 (n4 g e2 (Array.getElem?_eq_some_iff.1 e3).1 ⟨cur, e3⟩)).trans e3, e4⟩
    exact ⟨g, o, u, he, hc, ho'.sli⟩
  · exact own_sli (own_frame0 (h.wr k) fun g hg => ht.block g ((h.wr k).lt g hg).2 (n5 k g hg))

theorem BSt.dyn (h : BSt tag B w0 w bx vc vo bw bk bc cap C f es K) : Dyn (wS vo bk bc) w vo bk bc cap (C.map fun c => (c.length : Int)) K 0 :=
  ⟨by have := h.op; unfold Rw; rw [List.length_map]; exact own_zero this, h.kn, h.ch, fun k hk => .inl hk, .inr (.inl rfl), .inr (.inr rfl), Nat.zero_le _⟩

/-- What set did. -/
theorem BSt.set (h : BSt tag B w0 w bx vc vo bw bk bc cap C f es K) {w' : World} {K' : List Int} (hD : Dyn (wS vo bk bc) w' vo bk bc cap (C.map fun c => (c.length : Int)) K' 0) (ht : Touch (wS vo bk bc) w w') : BSt tag B w0 w' bx vc vo bw bk bc cap C f es K' := by
  obtain ⟨n1, n2, n3, n4, n5⟩ := h.notS
  obtain ⟨us, hu1, hu2⟩ := h.cls
  have hO : w'.ownsRow B 3 1 vo C.length (ints (C.map fun c => (c.length : Int))) := by
    have := hD.op
    unfold Rw at this
    rw [List.length_map] at this
    exact own_rebase this fun g hg => (h.op.lt g hg).1
  have hlow : ∀ k, wS vo bk bc k → B ≤ k := by
    rintro k (e | e | e)
    · exact (h.op.lt k e).1
    · rw [e]; exact h.kB
    · rw [e]; exact h.cB
  refine ⟨h.bel.trans (ht.below h.le hlow), Nat.le_trans h.le ht.size, (ht.block bx (Array.getElem?_eq_some_iff.1 h.blk).1 n1).trans h.blk, h.bxB, ⟨us, own_frame0 hu1 fun g hg => ht.block g (hu1.lt g hg).2 (n2 g hg), fun i xs hi => ?_⟩, hO, h.opt, h.wi.frame (ht.block bw h.wi.lt n3), h.wB, fun k => own_frame0 (h.wr k) fun g hg => ht.block g ((h.wr k).lt g hg).2 (n5 k g hg), h.wt, hD.kn, h.kB, hD.ch, h.cB, h.ne⟩
  obtain ⟨u, hu, ho⟩ := hu2 i xs hi
  obtain ⟨a, c, h1, h2, h3, h4⟩ := ho
  refine ⟨u, hu, a, c, h1, h2, h3, fun ad had => ?_⟩
  obtain ⟨g, off, cur, e1, e2, e3, e4⟩ := h4 ad had
  exact ⟨g, off, cur, e1, e2, (ht.block g (Array.getElem?_eq_some_iff.1 e3).1 (n4 g e2 (Array.getElem?_eq_some_iff.1 e3).1 ⟨cur, e3⟩)).trans e3, e4⟩

end

/-- append of one element that was laid into a block of its own, as a step of a region whose order is open. -/
theorem step_append_at1 {P : Program} {w : World} {ops : Array Oper} {o : Oper} {a : Act} {K : Act → World → Prop} {Q : Exit → Act → World → Prop} {E : Prop} (hgd : o.guard = none) (s x : Operand) (t : TypeId)
    (ho : o.op = .call { callee := .builtin .append, args := #[s, x], argTypes := #[t, t] })
    (base : Nat) (e : TypeId) (i : TypeInfo) (z : Value) (bytes : Nat) (ht : P.underlying t = some (.slice e)) (hi : P.info? e = some i) (hz : i.zero = some z)
    (hsize : i.size = 1) (hby : i.bytes = bytes) (hzs : z.cells.size = 1)
    (v : Value) (n : Nat) (xs : List Value) (hs : a.eval s = v) (hown : w.ownsRow base e 1 v n xs)
    (g : Nat) (u : Value) (hx : a.eval x = .slice (some ⟨g, 0, none⟩) 1 1) (hc : w.heap[g]? = some (.cells #[u] e (0, 0))) (h1 : u.oneCell' = true)
    (h63 : n + 1 ≤ maxLen) (hbytes : (n + 1) * bytes ≤ 140737488355328) (hbase : base ≤ w.heap.size)
    (h : ∀ v' w', w'.ownsRow base e 1 v' (n + 1) (xs ++ [u]) → w.grownBy w' v.ownBlock → (v'.ownBlock = v.ownBlock ∨ v'.ownBlock = some w.heap.size) → K (a.put o.dst v') w') :
    if Region.wanted o (yielded ops a.tmps) = true then Oper.wp P o a w K Q else E := by
  have hw : Region.wanted o (yielded ops a.tmps) = true := by simp [Region.wanted, hgd]
  rw [if_pos hw]
  have hnews : ∀ j y, [u][j]? = some y → w.cell? ((⟨g, 0, none⟩ : Addr).add j) = some y := by
    intro j y hj
    match j, hj with
    | 0, hj =>
      simp at hj
      subst hj
      show w.cell? ⟨g, 0, none⟩ = _
      rw [cell_of_row _ _ _ _ _ _ hc]
      simp
  obtain ⟨v', w', hr, h2, h3, -, h4⟩ := run_append_own_at (P := P) w base t o.type e i z 1 bytes ht hi hz hsize hby hzs (by decide) v n xs hown ⟨g, 0, none⟩ 1 1 [u] rfl hnews (by intro y hy; simp at hy; rw [hy]; exact h1) h63 hbytes hbase
  unfold Oper.wp execOp
  simp only [ho, resolve, invoke, builtin, Sem.run_bind, Sem.run_pure, Result.andThen_ok, List.map_toArray, List.map_cons, List.map_nil, hs, hx, hr]
  exact h v' w' h2 h3 h4

section
variable {tag : Nat → Tag} {B : Nat} {w0 w : World} {bx : Nat} {vc vo : Value} {bw bk bc cap : Nat} {C : List (List Int)} {f : Int → List Int} {es : List (Int × Value)} {K : List Int}

theorem setCells2 {w : World} {b : Nat} {e : TypeId} {x0 x1 x2 x3 x4 y0 y1 : Value} (h : w.heap[b]? = some (.cells #[x0, x1, x2, x3, x4] e (0, 0))) :
    ((w.setCell ⟨b, 0, none⟩ y0).setCell ⟨b, 1, none⟩ y1).heap[b]? = some (.cells #[y0, y1, x2, x3, x4] e (0, 0)) := by
  have h1 := setCell_block (o := 0) y0 (xs := [x0, x1, x2, x3, x4]) h
  have h2 := setCell_block (o := 1) y1 (xs := [y0, x1, x2, x3, x4]) h1
  exact h2

/-- A clause came in. -/
theorem BSt.add (h : BSt tag B w0 w bx vc vo bw bk bc cap C f es K) {l : List Int} {u : Value} (hu : OwnTg w tag u l) {us : List Value} (hu1 : w.ownsRow B 22 1 vc C.length us) (hu2 : ∀ (i : Nat) xs, C[i]? = some xs → ∃ u, us[i]? = some u ∧ OwnTg w tag u xs)
    {w9 : World} {v8 v9 : Value} (ht : Touch (fun k => vc.ownBlock = some k ∨ vo.ownBlock = some k) w w9) (h8 : w9.ownsRow B 22 1 v8 (C.length + 1) (us ++ [u])) (h9 : w9.ownsRow B 3 1 v9 (C.length + 1) (ints (C.map fun c => (c.length : Int)) ++ [.int .i64 (l.length : Int)]))
    (a9 : v9.ownBlock = vo.ownBlock ∨ ∃ g, v9.ownBlock = some g ∧ w.heap.size ≤ g) :
    BSt (fun g => if g < w.heap.size then tag g else .opn) B w0 ((w9.setCell ⟨bx, 0, none⟩ v8).setCell ⟨bx, 1, none⟩ v9) bx v8 v9 bw bk bc cap (C ++ [l]) f es K ∧ OwnTg ((w9.setCell ⟨bx, 0, none⟩ v8).setCell ⟨bx, 1, none⟩ v9) (fun g => if g < w.heap.size then tag g else .opn) u l := by
  have hbxl := (Array.getElem?_eq_some_iff.1 h.blk).1
  obtain ⟨n1, n2, n3, n4, n5⟩ := h.notS
  have htT : ∀ g, g < w.heap.size → (if g < w.heap.size then tag g else .opn) = tag g := fun g hg => by rw [if_pos hg]
  obtain ⟨arrk, ck, hkm, -⟩ := h.kn
  obtain ⟨arrw, cw, hwm, -⟩ := h.wi
  have hbv : ¬ (vc.ownBlock = some bx ∨ vo.ownBlock = some bx) := by
    rintro (e | e)
    · obtain ⟨cur, hc⟩ := own_cells hu1 e; rw [h.blk] at hc; simp at hc
    · exact n1 (.inl e)
  have hb9 : w9.heap[bx]? = some (.cells #[vc, vo, .map (some bw), .map (some bk), .chan (some bc)] 103) := (ht.block bx hbxl hbv).trans h.blk
  have hset : ∀ k, k ≠ bx → ((w9.setCell ⟨bx, 0, none⟩ v8).setCell ⟨bx, 1, none⟩ v9).heap[k]? = w9.heap[k]? := fun k hk => (Below.heap_setCell _ ⟨bx, 1, none⟩ v9 k hk).trans (Below.heap_setCell _ ⟨bx, 0, none⟩ v8 k hk)
  have hT : Touch (fun k => k = bx ∨ vc.ownBlock = some k ∨ vo.ownBlock = some k) w ((w9.setCell ⟨bx, 0, none⟩ v8).setCell ⟨bx, 1, none⟩ v9) :=
    ((ht.mono fun k _ hk => .inr hk).setCell (p := ⟨bx, 0, none⟩) (.inl rfl) v8).setCell (p := ⟨bx, 1, none⟩) (.inl rfl) v9
  have hlow : ∀ k, (k = bx ∨ vc.ownBlock = some k ∨ vo.ownBlock = some k) → B ≤ k := by
    rintro k (e | e | e)
    · rw [e]; exact h.bxB
    · exact (hu1.lt k e).1
    · exact (h.op.lt k e).1
  have hblk : ∀ k, k < w.heap.size → k ≠ bx → vc.ownBlock ≠ some k → vo.ownBlock ≠ some k → ((w9.setCell ⟨bx, 0, none⟩ v8).setCell ⟨bx, 1, none⟩ v9).heap[k]? = w.heap[k]? := fun k hk h1 h2 h3 =>
    hT.block k hk (by rintro (e | e | e); exact h1 e; exact h2 e; exact h3 e)
  have hint : ∀ g cur, w.heap[g]? = some (.cells cur 3 (0, 0)) → g ≠ bx ∧ vc.ownBlock ≠ some g := fun g cur hg =>
    ⟨fun e => by rw [e, h.blk] at hg; simp at hg, fun e => by obtain ⟨c2, hc2⟩ := own_cells hu1 e; rw [hg] at hc2; simp at hc2⟩
  have hO : ∀ {u : Value} {xs : List Int}, OwnTg w tag u xs → OwnTg ((w9.setCell ⟨bx, 0, none⟩ v8).setCell ⟨bx, 1, none⟩ v9) (fun g => if g < w.heap.size then tag g else .opn) u xs := fun {u xs} ho => by
    obtain ⟨a, c, h1, h2, h3, h4⟩ := ho
    refine ⟨a, c, h1, h2, h3, fun ad had => ?_⟩
    obtain ⟨g, off, cur, e1, e2, e3, e4⟩ := h4 ad had
    have hl := (Array.getElem?_eq_some_iff.1 e3).1
    exact ⟨g, off, cur, e1, by show (if g < w.heap.size then tag g else .opn) = .cls; rw [if_pos hl]; exact e2, (hblk g hl (hint g cur e3).1 (hint g cur e3).2 (fun e => by have := h.opt g e; rw [e2] at this; cases this)).trans e3, e4⟩
  have hne8 : ∀ g, v8.ownBlock = some g → g ≠ bx := fun g hg e => by
    obtain ⟨cur, hc⟩ := own_cells h8 hg; rw [e, hb9] at hc; simp at hc
  have hne9 : ∀ g, v9.ownBlock = some g → g ≠ bx := fun g hg e => by
    obtain ⟨cur, hc⟩ := own_cells h9 hg; rw [e, hb9] at hc; simp at hc
  refine ⟨?_, hO hu⟩
  refine ⟨h.bel.trans (hT.below h.le hlow), Nat.le_trans h.le hT.size, setCells2 hb9, h.bxB, ⟨us ++ [u], ?_, fun i xs hi => ?_⟩, ?_, fun g hg => ?_, h.wi.frame (hblk bw h.wi.lt (fun e => by rw [e, h.blk] at hwm; cases hwm) (fun e => by obtain ⟨c2, hc2⟩ := own_cells hu1 e; rw [hwm] at hc2; cases hc2) (fun e => n3 (.inl e))), h.wB, fun k => own_frame0 (h.wr k) fun g hg => ?_, fun k g hg => ?_, h.kn.frame (hblk bk h.kn.lt (fun e => by rw [e, h.blk] at hkm; cases hkm) (fun e => by obtain ⟨c2, hc2⟩ := own_cells hu1 e; rw [hkm] at hc2; cases hc2) (fun e => by obtain ⟨c2, hc2⟩ := own_cells h.op e; rw [hkm] at hc2; cases hc2)), h.kB, (hblk bc (Array.getElem?_eq_some_iff.1 h.ch).1 (fun e => by have := h.ch; rw [e, h.blk] at this; cases this) (fun e => by obtain ⟨c2, hc2⟩ := own_cells hu1 e; rw [h.ch] at hc2; cases hc2) (fun e => by obtain ⟨c2, hc2⟩ := own_cells h.op e; rw [h.ch] at hc2; cases hc2)).trans h.ch, h.cB, h.ne⟩
  · rw [List.length_append, List.length_singleton]
    exact own_frame0 h8 fun g hg => hset g (hne8 g hg)
  · have hul : us.length = C.length := by have := hu1.1; omega
    by_cases hlt : i < C.length
    · rw [List.getElem?_append_left hlt] at hi
      obtain ⟨u', hu', ho'⟩ := hu2 i xs hi
      exact ⟨u', by rw [List.getElem?_append_left (by omega)]; exact hu', hO ho'⟩
    · have hie : i = C.length := by
        have := (List.getElem?_eq_some_iff.1 hi).1
        simp at this
        omega
      subst hie
      simp at hi
      subst hi
      exact ⟨u, by rw [← hul]; simp, hO hu⟩
  · rw [List.map_append, ints_append, List.length_append, List.length_singleton]
    exact own_frame0 h9 fun g hg => hset g (hne9 g hg)
  · rcases a9 with e | ⟨g', e, hge⟩
    · rw [e] at hg
      show (if g < w.heap.size then tag g else .opn) = .opn
      rw [if_pos (h.op.lt g hg).2]
      exact h.opt g hg
    · rw [e] at hg
      injection hg with hg
      show (if g < w.heap.size then tag g else .opn) = .opn
      rw [if_neg (by omega)]
  · obtain ⟨cur, hc⟩ := own_cells (h.wr k) hg
    exact hblk g ((h.wr k).lt g hg).2 (hint g cur hc).1 (hint g cur hc).2 (fun e => n5 k g hg (.inl e))
  · show (if g < w.heap.size then tag g else .opn) = .wth k
    rw [if_pos ((h.wr k).lt g hg).2]
    exact h.wt k g hg

/-- An index came in under a literal. -/
theorem BSt.wth (h : BSt tag B w0 w bx vc vo bw bk bc cap C f es K) {a i : Int} {w2 w3 : World} {v' : Value} (happ : Touch (fun k => ((aget es a).getD nilS).ownBlock = some k) w w2) (h8 : w2.ownsRow B 3 1 v' ((f a).length + 1) (ints (f a) ++ [.int .i64 i]))
    (a8 : v'.ownBlock = ((aget es a).getD nilS).ownBlock ∨ ∃ g, v'.ownBlock = some g ∧ w.heap.size ≤ g) (hup : IM w3 bw (aput es a v')) (ht : Touch (fun k => k = bw) w2 w3) :
    BSt (fun g => if g < w.heap.size then tag g else .wth a) B w0 w3 bx vc vo bw bk bc cap C (fun k => if k = a then f a ++ [i] else f k) (aput es a v') K ∧ ∀ u xs, OwnTg w tag u xs → OwnTg w3 (fun g => if g < w.heap.size then tag g else .wth a) u xs := by
  obtain ⟨n1, n2, n3, n4, n5⟩ := h.notS
  obtain ⟨us, hu1, hu2⟩ := h.cls
  obtain ⟨arrk, ck, hkm, -⟩ := h.kn
  obtain ⟨arrw, cw, hwm, -⟩ := h.wi
  have hT : Touch (fun k => k = bw ∨ ((aget es a).getD nilS).ownBlock = some k) w w3 := (happ.mono fun k _ hk => .inr hk).trans' ht fun k _ hk => .inl hk
  have hwv : ∀ g, ((aget es a).getD nilS).ownBlock = some g → ∃ cur, w.heap[g]? = some (.cells cur 3 (0, 0)) := fun g hg => own_cells (h.wr a) hg
  have hblk : ∀ k, k < w.heap.size → k ≠ bw → ((aget es a).getD nilS).ownBlock ≠ some k → w3.heap[k]? = w.heap[k]? := fun k hk h1 h2 => hT.block k hk (by rintro (e | e); exact h1 e; exact h2 e)
  have hcw : ∀ g cur e m, w.heap[g]? = some (.cells cur e m) → g ≠ bw := fun g cur e m hg e2 => by rw [e2, hwm] at hg; cases hg
  have hlow : ∀ k, (k = bw ∨ ((aget es a).getD nilS).ownBlock = some k) → B ≤ k := by
    rintro k (e | e)
    · rw [e]; exact h.wB
    · exact ((h.wr a).lt k e).1
  have hn := h.wi.nodup
  have hOO : ∀ u xs, OwnTg w tag u xs → OwnTg w3 (fun g => if g < w.heap.size then tag g else .wth a) u xs := fun u xs ho => by
    obtain ⟨ad0, c, h1, h2, h3, h4⟩ := ho
    refine ⟨ad0, c, h1, h2, h3, fun ad had => ?_⟩
    obtain ⟨g, off, cur, e1, e2, e3, e4⟩ := h4 ad had
    have hl := (Array.getElem?_eq_some_iff.1 e3).1
    exact ⟨g, off, cur, e1, by show (if g < w.heap.size then tag g else .wth a) = .cls; rw [if_pos hl]; exact e2, (hblk g hl (hcw _ _ _ _ e3) (fun e => by have := h.wt a g e; rw [e2] at this; cases this)).trans e3, e4⟩
  refine ⟨?_, hOO⟩
  refine ⟨h.bel.trans (hT.below h.le hlow), Nat.le_trans h.le hT.size, (hblk bx (Array.getElem?_eq_some_iff.1 h.blk).1 (hcw _ _ _ _ h.blk) (fun e => by obtain ⟨c, hc⟩ := hwv _ e; rw [h.blk] at hc; simp at hc)).trans h.blk, h.bxB, ⟨us, own_frame0 hu1 fun g hg => ?_, fun j xs hj => ?_⟩, own_frame0 h.op fun g hg => ?_, fun g hg => ?_, hup, h.wB, fun k => ?_, fun k g hg => ?_, h.kn.frame (hblk bk h.kn.lt (fun e => h.ne e.symm) (fun e => by obtain ⟨c, hc⟩ := hwv _ e; rw [hkm] at hc; cases hc)), h.kB, (hblk bc (Array.getElem?_eq_some_iff.1 h.ch).1 (fun e => by have := h.ch; rw [e, hwm] at this; cases this) (fun e => by obtain ⟨c, hc⟩ := hwv _ e; rw [h.ch] at hc; cases hc)).trans h.ch, h.cB, h.ne⟩
  · obtain ⟨cur, hc⟩ := own_cells hu1 hg
    exact hblk g (hu1.lt g hg).2 (hcw _ _ _ _ hc) (fun e => by obtain ⟨c2, hc2⟩ := hwv _ e; rw [hc] at hc2; simp at hc2)
  · obtain ⟨u, hu, ho⟩ := hu2 j xs hj
    exact ⟨u, hu, hOO u xs ho⟩
  · obtain ⟨cur, hc⟩ := own_cells h.op hg
    exact hblk g (h.op.lt g hg).2 (hcw _ _ _ _ hc) (fun e => by have h1 := h.wt a g e; rw [h.opt g hg] at h1; cases h1)
  · show (if g < w.heap.size then tag g else .wth a) = .opn
    rw [if_pos (h.op.lt g hg).2]; exact h.opt g hg
  · by_cases hk : k = a
    · subst hk
      simp only [if_true]
      rw [aget_aput_same hn, Option.getD_some, List.length_append, List.length_singleton, ints_append]
      refine own_frame0 h8 fun g hg => ht.block g (h8.lt g hg).2 (fun e => ?_)
      have hbw2 : w2.heap[bw]? = w.heap[bw]? := happ.block bw h.wi.lt (fun e => by obtain ⟨c, hc⟩ := hwv _ e; rw [hwm] at hc; cases hc)
      obtain ⟨cur, hc⟩ := own_cells h8 hg
      rw [e, hbw2, hwm] at hc
      cases hc
    · simp only [hk, if_false]
      rw [aget_aput_other hk]
      refine own_frame0 (h.wr k) fun g hg => ?_
      obtain ⟨cur, hc⟩ := own_cells (h.wr k) hg
      exact hblk g ((h.wr k).lt g hg).2 (hcw _ _ _ _ hc) (fun e => by have h1 := h.wt a g e; rw [h.wt k g hg] at h1; injection h1 with h1; exact hk h1)
  · by_cases hk : k = a
    · subst hk
      rw [aget_aput_same hn, Option.getD_some] at hg
      show (if g < w.heap.size then tag g else .wth k) = .wth k
      rcases a8 with e | ⟨g', e, hge⟩
      · rw [e] at hg
        rw [if_pos ((h.wr k).lt g hg).2]; exact h.wt k g hg
      · rw [e] at hg
        injection hg with hg
        rw [if_neg (by omega)]
    · rw [aget_aput_other hk] at hg
      show (if g < w.heap.size then tag g else .wth a) = .wth k
      rw [if_pos ((h.wr k).lt g hg).2]; exact h.wt k g hg

theorem BSt.touchB (h : BSt tag B w0 w bx vc vo bw bk bc cap C f es K) {w' : World} (ht : Touch (wS vo bk bc) w w') : Below B w0 w' :=
  h.bel.trans (ht.below h.le fun k hk => by
    rcases hk with e | e | e
    · exact (h.op.lt k e).1
    · rw [e]; exact h.kB
    · rw [e]; exact h.cB)

end

theorem blk_new2 (w : World) (a b : Obj) : ((w.alloc a).alloc b).heap[w.heap.size + 1]? = some b := by
  have e1 : ((w.alloc a).alloc b).heap = (w.heap.push a).push b := rfl
  rw [e1, Array.getElem?_push, if_pos (by simp)]
theorem blk_old2 (w : World) (a b : Obj) : ((w.alloc a).alloc b).heap[w.heap.size]? = some a := by
  have e1 : ((w.alloc a).alloc b).heap = (w.heap.push a).push b := rfl
  rw [e1, Array.getElem?_push, if_neg (by simp), Array.getElem?_push, if_pos rfl]

/-- What stands under each literal behind m literals of the clause l. -/
def withM (C : List (List Int)) (l : List Int) (m : Nat) (k : Int) : List Int := withL C k ++ if k ∈ l.take m then [(C.length : Int)] else []

theorem withM_zero (C : List (List Int)) (l : List Int) : withM C l 0 = withL C := by funext k; simp [withM]
theorem withM_done (C : List (List Int)) (l : List Int) {m : Nat} (h : l.length ≤ m) : withM C l m = withL (C ++ [l]) := by
  funext k
  unfold withM
  rw [List.take_of_length_le h, withL_snoc]
theorem withM_step {C : List (List Int)} {l : List Int} (hn : l.Nodup) {m : Nat} {a : Int} (ha : l[m]? = some a) : (fun k => if k = a then withM C l m a ++ [(C.length : Int)] else withM C l m k) = withM C l (m + 1) := by
  funext k
  obtain ⟨hm, hae⟩ := List.getElem?_eq_some_iff.1 ha
  have hna : a ∉ l.take m := fun hin => by
    obtain ⟨x, hx, he⟩ := List.mem_iff_getElem.1 hin
    simp at hx
    rw [List.getElem_take] at he
    exact (List.pairwise_iff_getElem.1 hn) x m (by omega) hm (by omega) (by rw [he, hae])
  unfold withM
  by_cases hk : k = a
  · subst hk
    rw [if_pos rfl, if_neg hna, if_pos (by rw [List.take_add_one, ha]; simp)]
    simp
  · rw [if_neg hk]
    have e : (k ∈ l.take (m + 1)) ↔ k ∈ l.take m := by rw [List.take_add_one, ha]; simp [hk]
    simp [e]

/-- The state as it is made. -/
theorem bst_new (w1 w2 : World) (cap : Nat) (h : (((w1.alloc (.map #[] 0)).alloc (.map #[] 0)).alloc (.chan cap #[] false 0 0 false)).alloc (.cells #[nilS, nilS, .map (some w1.heap.size), .map (some (w1.heap.size + 1)), .chan (some (w1.heap.size + 1 + 1))] 103) = w2) :
    BSt (fun _ => .cls) w1.heap.size w1 w2 (w1.heap.size + 1 + 1 + 1) nilS nilS w1.heap.size (w1.heap.size + 1) (w1.heap.size + 1 + 1) cap [] (fun _ => []) [] [] := by
  subst h
  have e1 : ((((w1.alloc (.map #[] 0)).alloc (.map #[] 0)).alloc (.chan cap #[] false 0 0 false)).alloc (.cells #[nilS, nilS, .map (some w1.heap.size), .map (some (w1.heap.size + 1)), .chan (some (w1.heap.size + 1 + 1))] 103)).heap = ((((w1.heap.push (.map #[] 0)).push (.map #[] 0)).push (.chan cap #[] false 0 0 false)).push (.cells #[nilS, nilS, .map (some w1.heap.size), .map (some (w1.heap.size + 1)), .chan (some (w1.heap.size + 1 + 1))] 103)) := rfl
  have hbel : Below w1.heap.size w1 ((((w1.alloc (.map #[] 0)).alloc (.map #[] 0)).alloc (.chan cap #[] false 0 0 false)).alloc (.cells #[nilS, nilS, .map (some w1.heap.size), .map (some (w1.heap.size + 1)), .chan (some (w1.heap.size + 1 + 1))] 103)) :=
    ((((Below.refl _ w1).alloc (Nat.le_refl _) _).alloc (by simp) _).alloc (by simp <;> omega) _).alloc (by simp <;> omega) _
  refine ⟨hbel, by rw [e1]; simp <;> omega, ?_, by omega, ⟨[], World.ownsRow_nil _ _ _ _, (fun i xs hi => (by cases hi))⟩, World.ownsRow_nil _ _ _ _, (fun g hg => (by cases hg)), ⟨#[], 0, ?_, MapKept.stamped_empty 0, rfl⟩, Nat.le_refl _, fun k => World.ownsRow_nil _ _ _ _, (fun k g hg => (by cases hg)), ⟨#[], 0, ?_, MapKept.stamped_empty 0, rfl⟩, by omega, ?_, by omega, by omega⟩
  · rw [e1, Array.getElem?_push, if_pos (by simp)]
  · rw [e1]
    rw [Array.getElem?_push, if_neg (by simp <;> omega), Array.getElem?_push, if_neg (by simp <;> omega), Array.getElem?_push, if_neg (by simp), Array.getElem?_push, if_pos rfl]
  · rw [e1]
    rw [Array.getElem?_push, if_neg (by simp <;> omega), Array.getElem?_push, if_neg (by simp), Array.getElem?_push, if_pos (by simp)]
  · rw [e1]
    rw [Array.getElem?_push, if_neg (by simp), Array.getElem?_push, if_pos (by simp)]
    rfl

end Go.Proofs.Ytfofabbnbmieoaa.Ord

/- Plain definitions and lemmas about literals and clauses: no program in sight. -/
namespace Go.Proofs.Ytfofabbnbmieoaa
open Go.RowKit

theorem take_any_succ {α : Type} {p : α → Bool} {xs : List α} {k : Nat} {x : α} (h : xs[k]? = some x) (ha : (xs.take k).any p = false) (hp : p x = false) :
    (xs.take (k + 1)).any p = false := by
  rw [List.take_add_one, h]
  simp only [List.any_append, ha, Bool.false_or]
  simp [hp]

theorem any_of_get {α : Type} {p : α → Bool} {xs : List α} {k : Nat} {x : α} (h : xs[k]? = some x) (hp : p x = true) : xs.any p = true :=
  List.any_eq_true.2 ⟨x, List.mem_of_getElem? h, hp⟩

theorem take_all_false {α : Type} {p : α → Bool} {xs : List α} {k : Nat} (hk : ¬ k < xs.length) (ha : (xs.take k).any p = false) : xs.any p = false := by
  rwa [List.take_of_length_le (by omega)] at ha

/-- lit.Less. -/
def lessB (a b : Int) : Bool := decide (a.natAbs < b.natAbs) || (a.natAbs == b.natAbs && decide (b < a))

/-- A number is no literal of n variables. -/
def badLit (n a : Int) : Bool := a == 0 || decide (n < a.natAbs)

/-- lit.Check: the error of a clause. -/
def litCheck (n : Int) (c : List Int) : Int :=
  if n < 0 ∨ 1048576 < n then 3 else if 4096 < c.length then 5 else if c.any (badLit n) then 3 else 0

theorem litCheck_range {n : Int} {c : List Int} (h : n < 0 ∨ 1048576 < n) : litCheck n c = 3 := by simp [litCheck, h]
theorem litCheck_long {n : Int} {c : List Int} (h : 0 ≤ n ∧ n ≤ 1048576) (hl : (4096 : Int) < c.length) : litCheck n c = 5 := by
  unfold litCheck; rw [if_neg (by omega), if_pos (by omega)]
theorem litCheck_bad {n : Int} {c : List Int} (h : 0 ≤ n ∧ n ≤ 1048576) (hl : (c.length : Int) ≤ 4096) (hb : c.any (badLit n) = true) : litCheck n c = 3 := by
  unfold litCheck; rw [if_neg (by omega), if_neg (by omega), if_pos hb]
theorem litCheck_ok {n : Int} {c : List Int} (h : 0 ≤ n ∧ n ≤ 1048576) (hl : (c.length : Int) ≤ 4096) (hb : c.any (badLit n) = false) : litCheck n c = 0 := by
  unfold litCheck; rw [if_neg (by omega), if_neg (by omega), if_neg (by simp [hb])]

/-- The literal a holds in the model m. -/
def litHolds (m : List Bool) (a : Int) : Bool := decide (0 < a.natAbs) && m[a.natAbs - 1]? == some (decide (0 < a))

theorem litHolds_zero {m : List Bool} {a : Int} (h : a = 0) : litHolds m a = false := by simp [litHolds, h]
theorem litHolds_out {m : List Bool} {a : Int} (h : m.length < a.natAbs) : litHolds m a = false := by
  have : m[a.natAbs - 1]? = none := by simp; omega
  simp [litHolds, this]
theorem litHolds_in {m : List Bool} {a : Int} {x : Bool} (h : 0 < a.natAbs) (hx : m[a.natAbs - 1]? = some x) : litHolds m a = (x == decide (0 < a)) := by
  have ha : a ≠ 0 := by omega
  simp [litHolds, hx, ha]

/-- lit.Holds. -/
def holdsB (m : List Bool) (c : List Int) : Bool := c.any (litHolds m)

/-- lit.sorted's merge: two ascending lists into one, equal elements once. -/
def mrg : List Int → List Int → List Int
  | [], bs => bs
  | a :: as1, [] => a :: as1
  | a :: as1, b :: bs =>
    if lessB a b then a :: mrg as1 (b :: bs) else if lessB b a then b :: mrg (a :: as1) bs else mrg as1 (b :: bs)
termination_by as1 bs => as1.length + bs.length

/-- lit.sorted, with so many levels of recursion. -/
def msort : Nat → List Int → List Int
  | 0, xs => xs
  | n + 1, xs => if xs.length < 2 then xs else mrg (msort n (xs.take (xs.length / 2))) (msort n (xs.drop (xs.length / 2)))

theorem mrg_nil_left (bs : List Int) : mrg [] bs = bs := by rw [mrg.eq_def]
theorem mrg_nil_right (as1 : List Int) : mrg as1 [] = as1 := by rw [mrg.eq_def]; cases as1 <;> rfl
theorem mrg_cons (a b : Int) (as1 bs : List Int) : mrg (a :: as1) (b :: bs) =
    if lessB a b then a :: mrg as1 (b :: bs) else if lessB b a then b :: mrg (a :: as1) bs else mrg as1 (b :: bs) := by rw [mrg.eq_def]

theorem mem_mrg {x : Int} : ∀ (as1 bs : List Int), x ∈ mrg as1 bs → x ∈ as1 ∨ x ∈ bs := by
  intro as1 bs
  induction as1, bs using mrg.induct with
  | case1 bs => rw [mrg_nil_left]; exact Or.inr
  | case2 a as1 => rw [mrg_nil_right]; exact Or.inl
  | case3 a as1 b bs h ih =>
    rw [mrg_cons, if_pos h]
    intro hx
    rcases List.mem_cons.1 hx with h | h
    · simp [h]
    · rcases ih h with h | h <;> simp_all
  | case4 a as1 b bs h h2 ih =>
    rw [mrg_cons, if_neg h, if_pos h2]
    intro hx
    rcases List.mem_cons.1 hx with h | h
    · simp [h]
    · rcases ih h with h | h <;> simp_all
  | case5 a as1 b bs h h2 ih =>
    rw [mrg_cons, if_neg h, if_neg h2]
    intro hx
    rcases ih hx with h | h <;> simp_all

theorem mem_msort {x : Int} : ∀ (n : Nat) (xs : List Int), x ∈ msort n xs → x ∈ xs := by
  intro n
  induction n with
  | zero => intro xs h; exact h
  | succ n ih =>
    intro xs h
    rw [msort] at h
    split at h
    · exact h
    · rcases mem_mrg _ _ h with h | h
      · exact List.mem_of_mem_take (ih _ h)
      · exact List.mem_of_mem_drop (ih _ h)

theorem mrg_length : ∀ (as1 bs : List Int), (mrg as1 bs).length ≤ as1.length + bs.length := by
  intro as1 bs
  induction as1, bs using mrg.induct with
  | case1 bs => rw [mrg_nil_left]; simp
  | case2 a as1 => rw [mrg_nil_right]; simp
  | case3 a as1 b bs h ih => rw [mrg_cons, if_pos h]; simp at *; omega
  | case4 a as1 b bs h h2 ih => rw [mrg_cons, if_neg h, if_pos h2]; simp at *; omega
  | case5 a as1 b bs h h2 ih => rw [mrg_cons, if_neg h, if_neg h2]; simp at *; omega

theorem msort_length : ∀ (n : Nat) (xs : List Int), (msort n xs).length ≤ xs.length := by
  intro n
  induction n with
  | zero => intro xs; exact Nat.le_refl _
  | succ n ih =>
    intro xs
    rw [msort]
    split
    · exact Nat.le_refl _
    · have h1 := mrg_length (msort n (xs.take (xs.length / 2))) (msort n (xs.drop (xs.length / 2)))
      have h2 := ih (xs.take (xs.length / 2))
      have h3 := ih (xs.drop (xs.length / 2))
      simp at h2 h3
      omega

end Go.Proofs.Ytfofabbnbmieoaa

/- The contracts of package lit's small functions: size, Less, Check, Holds. -/
namespace Go.Proofs.Ytfofabbnbmieoaa
open Go.RowKit

set_option maxHeartbeats 400000 in
theorem lit_size (a : Int) (w : World) (h : I64 a) :
    Calls Try.prog 41 #[.int .i64 a] w fun e w' => e = .returned (.int .u64 (a.natAbs : Int)) ∧ w = w' := by
  obtain ⟨h1, h2⟩ := h
  by_cases h : a < 0
  · go_enter Try.func41, Try.ntmps41
    go_wp2
    go_ret
    refine ⟨?_, rfl⟩
    simp [IntKind.wrap, IntKind.signed, IntKind.bits]
    omega
  · go_enter Try.func41, Try.ntmps41
    go_wp2
    go_ret
    refine ⟨?_, rfl⟩
    simp
    omega

set_option maxHeartbeats 400000 in
theorem lit_Less (a b : Int) (w : World) (ha : I64 a) (hb : I64 b) :
    Calls Try.prog 18 #[.int .i64 a, .int .i64 b] w fun e w' => e = .returned (.bool (lessB a b)) ∧ w = w' := by
  go_enter Try.func18, Try.ntmps18
  go_wp2_with (go_at_call 41; refine (lit_size _ _ (by assumption)).mono ?_; rintro e w' ⟨rfl, rfl⟩)
  · go_ret
    refine ⟨?_, rfl⟩
    have h : ((a.natAbs : Int) != b.natAbs) = true := by assumption
    simp at h
    simp [lessB]
    omega
  · go_ret
    refine ⟨?_, rfl⟩
    have h : ((a.natAbs : Int) != b.natAbs) = false := by assumption
    have h' : a.natAbs = b.natAbs := by simp at h; omega
    simp [lessB, h']

set_option maxHeartbeats 400000 in
theorem lit_Check (n : Int) (a : Option Addr) (xs : List Int) (cap : Nat) (w : World) (hx : ∀ x ∈ xs, I64 x) (hs : SlV w a (ints xs))
    (hl : xs.length ≤ 9223372036854775807) :
    Calls Try.prog 15 #[.int .i64 n, .slice a xs.length cap] w fun e w' => e = .returned (.int .i64 (litCheck n xs)) ∧ w = w' := by
  have H := hid hx
  clear hx
  go_enter Try.func15, Try.ntmps15
  go_wp2_with fail
  all_goals try (go_ret; exact ⟨by first | rw [litCheck_long (by omega) (by omega)]; rfl | rw [litCheck_range (by omega)]; rfl, rfl⟩)
  have h1 : 0 ≤ n ∧ n ≤ 1048576 := by assumption
  have h2 : (xs.length : Int) ≤ 4096 := by assumption
  go_loop [18] (fun i => ∃ k : Nat, k ≤ xs.length ∧ i = .int .i64 k ∧ Hid ((xs.take k).any (badLit n) = false)) (fun i => xs.length - (intOf i).toNat)
  case atStart => exact ⟨0, Nat.zero_le _, rfl, rfl⟩
  case round =>
    obtain ⟨k, hk, rfl, hrel⟩ := hrel
    by_cases hlt : k < xs.length
    · obtain ⟨b, off, x, rfl, hc, hx⟩ := hs.int hlt
      have hx64 : I64 x := H.out x (List.mem_of_getElem? hx)
      have HX := hid hx
      clear hx hs
      by_cases hz : x = 0
      · have hz' : (x == 0) = true := by simp [hz]
        have HZ := hid hz
        clear hz
        go_wp2_with (go_at_call 41; refine (lit_size _ _ (by assumption)).mono ?_; rintro e w' ⟨rfl, rfl⟩)
        go_ret
        exact ⟨by rw [litCheck_bad h1 h2 (any_of_get HX.out (by simp [badLit, HZ.out]))]; rfl, rfl⟩
      · have hz' : (x == 0) = false := by simp [hz]
        have HZ := hid hz
        clear hz
        go_wp2_with (go_at_call 41; refine (lit_size _ _ (by assumption)).mono ?_; rintro e w' ⟨rfl, rfl⟩)
        · have hlt : n < x.natAbs := by assumption
          go_ret
          exact ⟨by rw [litCheck_bad h1 h2 (any_of_get HX.out (by simp [badLit, hlt]))]; rfl, rfl⟩
        · go_round
          case rel => exact ⟨k + 1, by omega, by go_num, take_any_succ HX.out hrel (by simp [badLit, HZ.out]; omega)⟩
          case measure => simp [intOf]; omega
    · go_wp2_with fail
      go_ret
      exact ⟨by rw [litCheck_ok h1 h2 (take_all_false hlt hrel)]; rfl, rfl⟩

set_option maxHeartbeats 400000 in
theorem lit_Holds (am : Option Addr) (m : List Bool) (capm : Nat) (a : Option Addr) (xs : List Int) (cap : Nat) (w : World) (hm : SlV w am (bools m)) (hx : ∀ x ∈ xs, I64 x)
    (hs : SlV w a (ints xs)) (hl : xs.length ≤ 9223372036854775807) (hlm : m.length ≤ 9223372036854775807) :
    Calls Try.prog 16 #[.slice am m.length capm, .slice a xs.length cap] w fun e w' => e = .returned (.bool (holdsB m xs)) ∧ w = w' := by
  have H := hid hx
  clear hx
  go_enter Try.func16, Try.ntmps16
  go_wp2_with fail
  go_loop [10] (fun i => ∃ k : Nat, k ≤ xs.length ∧ i = .int .i64 k ∧ Hid ((xs.take k).any (litHolds m) = false)) (fun i => xs.length - (intOf i).toNat)
  case atStart => exact ⟨0, Nat.zero_le _, rfl, rfl⟩
  case round =>
    obtain ⟨k, hk, rfl, hrel⟩ := hrel
    by_cases hlt : k < xs.length
    · obtain ⟨b, off, x, rfl, hc, hx⟩ := hs.int hlt
      have hx64 : I64 x := H.out x (List.mem_of_getElem? hx)
      have HX := hid hx
      clear hx hs
      by_cases hz : x = 0
      · have HZ := hid hz
        have h0 : ¬ (0 : Int) < x.natAbs := by omega
        clear hz
        go_wp2_with (go_at_call 41; refine (lit_size _ _ (by assumption)).mono ?_; rintro e w' ⟨rfl, rfl⟩)
        go_round
        case rel => exact ⟨k + 1, by omega, by go_num, take_any_succ HX.out hrel (litHolds_zero HZ.out)⟩
        case measure => simp [intOf]; omega
      · have h0 : (0 : Int) < x.natAbs := by omega
        by_cases hle : x.natAbs ≤ m.length
        · obtain ⟨b', off', y, rfl, hc', hy⟩ := hm.bool (show x.natAbs - 1 < m.length by omega)
          have HY := hid hy
          have h0' : 0 < x.natAbs := by omega
          clear hy hm hz
          go_wp2_with (go_at_call 41; refine (lit_size _ _ (by assumption)).mono ?_; rintro e w' ⟨rfl, rfl⟩)
          · have hb : (y == decide (0 < x)) = true := by assumption
            go_ret
            exact ⟨by rw [holdsB, any_of_get HX.out (by rw [litHolds_in h0' HY.out]; exact hb)]; rfl, rfl⟩
          · have hb : (y == decide (0 < x)) = false := by assumption
            go_round
            case rel => exact ⟨k + 1, by omega, by go_num, take_any_succ HX.out hrel (by rw [litHolds_in h0' HY.out]; exact hb)⟩
            case measure => simp [intOf]; omega
        · have h1 : ¬ (x.natAbs : Int) ≤ m.length := by omega
          go_wp2_with (go_at_call 41; refine (lit_size _ _ (by assumption)).mono ?_; rintro e w' ⟨rfl, rfl⟩)
          go_round
          case rel => exact ⟨k + 1, by omega, by go_num, take_any_succ HX.out hrel (litHolds_out (by omega))⟩
          case measure => simp [intOf]; omega
    · go_wp2_with fail
      go_ret
      exact ⟨by rw [holdsB, take_all_false hlt hrel]; rfl, rfl⟩

end Go.Proofs.Ytfofabbnbmieoaa

/- The contracts of the kit package's functions on lists of ints: CopyInts, EqualInts. -/
namespace Go.Proofs.Ytfofabbnbmieoaa
open Go.RowKit

theorem info_int : (Try.prog.info? 3).map (fun i => (i.zero, i.size, i.bytes)) = some (some (.int .i64 0), 1, 8) := by kernel_rfl

theorem one_new {w : World} {a : Addr} {x : Value} (h : w.cell? a = some x) : ∀ j u, ([x] : List Value)[j]? = some u → w.cell? (a.add j) = some u := by
  intro j u hj
  match j, hj with
  | 0, hj => simp at hj; subst hj; simpa [Addr.add] using h

set_option maxHeartbeats 400000 in
theorem kit_CopyInts (a : Option Addr) (xs : List Int) (cap : Nat) (w : World) (hs : SlV w a (ints xs)) (hl : xs.length ≤ 4294967296) :
    Calls Try.prog 62 #[.slice a xs.length cap] w fun e w' =>
      ∃ v, e = .returned v ∧ w'.ownsRow w.heap.size 3 1 v xs.length (ints xs) ∧ Below w.heap.size w w' := by
  obtain ⟨i0, hi, hz0, hz1, hz2⟩ := info_parts info_int
  obtain ⟨B, hB⟩ : ∃ B, B = w.heap.size := ⟨_, rfl⟩
  rw [← hB]
  have HB := hid hB
  clear hB
  go_enter Try.func62, Try.ntmps62
  go_wp2_with fail
  go_loopw [3, 4] (fun v i wr => ∃ k : Nat, k ≤ xs.length ∧ i = .int .i64 k ∧ Hid (wr.ownsRow B 3 1 v k (ints (xs.take k))) ∧ Below B w wr)
    (fun _ i _ => xs.length - (intOf i).toNat)
  case atStart => exact ⟨0, Nat.zero_le _, rfl, World.ownsRow_nil _ _ _ _, Below.refl _ _⟩
  case round =>
    obtain ⟨k, hk, rfl, hown, hb⟩ := hrel
    by_cases hlt : k < xs.length
    · obtain ⟨b, off, x, rfl, hc, hx⟩ := (hs.below (HB.out ▸ hb)).int hlt
      have HX := hid hx
      have hbs := hb.size
      clear hx hs
      go_wp2_with (at_builtin; refine wpList_append_own _ rfl _ _ 22 rfl B 3 i0 (.int .i64 0) 1 8 Try.underlying22 hi hz0 hz1 hz2 rfl (by decide) _ _ _ rfl (hown.out.alloc _) ⟨wr.heap.size, 0, none⟩ 1 1 [.int .i64 x] rfl rfl ?c1 ?c2 ?c3 ?c4 ?c5 ?_)
      case c1 => exact one_new (by simp)
      case c2 => intro u hu; simp at hu; subst hu; rfl
      case c3 => unfold maxLen; omega
      case c4 => omega
      case c5 => simp; have := HB.out; omega
      intro v' w1 hown' hgrow _
      rw [ints_take_succ HX.out] at hown'
      have HO := hid hown'
      have hb1 : Below B w w1 := (hb.alloc (by have := HB.out; omega) _).grown hgrow (by simp; have := HB.out; omega) (fun q hq => (hown.out.lt q hq).1)
      clear hown' hgrow hown hb
      go_wp2_with fail
      go_roundw
      case rel => exact ⟨k + 1, by omega, by go_num, HO, hb1⟩
      case measure => simp [intOf]; omega
    · have hkl : k = xs.length := by omega
      subst hkl
      rw [List.take_length] at hown
      go_wp2_with fail
      go_ret
      exact ⟨_, rfl, hown, hb⟩

set_option maxHeartbeats 400000 in
theorem kit_EqualInts (a b : Option Addr) (xs ys : List Int) (ca cb : Nat) (w : World) (hs : SlV w a (ints xs)) (ht : SlV w b (ints ys)) (hl : xs.length ≤ 9223372036854775807) :
    Calls Try.prog 17 #[.slice a xs.length ca, .slice b ys.length cb] w fun e w' => e = .returned (.bool (eqI xs ys)) ∧ ∃ n, w' = w.drewN n := by
  by_cases hlen : xs.length = ys.length
  · have hb1 : ((xs.length : Int) != ys.length) = false := by simp [hlen]
    have HL := hid hlen
    clear hlen
    go_enter Try.func17, Try.ntmps17
    go_wp2_with fail
    go_loopw [5] (fun i wr => ∃ k n : Nat, k ≤ xs.length ∧ wr = w.drewN n ∧ i = .int .i64 k ∧ Hid (xs.take k = ys.take k)) (fun i _ => xs.length - (intOf i).toNat)
    case atStart => exact ⟨0, 0, Nat.zero_le _, rfl, rfl, by simp [Hid]⟩
    case round =>
      obtain ⟨k, nd, hk, rfl, rfl, hrel⟩ := hrel
      by_cases hlt : k < xs.length
      · obtain ⟨b1, o1, x, rfl, hc, hx⟩ := hs.int hlt
        obtain ⟨b2, o2, y, rfl, hd, hy⟩ := ht.int (k := k) (by have := HL.out; omega)
        have HX := hid hx
        have HY := hid hy
        have hi1 : (k : Int) < xs.length := by omega
        have hi2 : (k : Int) < ys.length := by have := HL.out; omega
        clear hx hy hs ht
        go_wp2_with fail
        go_quiet (fail)
        go_wp2_with fail
        · have hne : (x != y) = true := by assumption
          go_ret
          exact ⟨by rw [eqI_at HX.out HY.out (by simpa using hne)]; rfl, _, by first | rfl | exact World.drewN_drewN ..⟩
        · have he : (x != y) = false := by assumption
          have he' : x = y := by simpa using he
          go_roundw
          case rel => exact ⟨k + 1, _, by omega, (by first | rfl | exact World.drewN_drewN ..), by go_num, take_eq_succ hrel HX.out (he' ▸ HY.out)⟩
          case measure => simp [intOf]; omega
      · go_wp2_with fail
        go_ret
        exact ⟨by rw [eqI_all hlt HL.out hrel]; rfl, _, by first | rfl | exact World.drewN_drewN ..⟩
  · have hb1 : ((xs.length : Int) != ys.length) = true := by simp; omega
    have HL := hid hlen
    clear hlen
    go_enter Try.func17, Try.ntmps17
    go_wp2_with fail
    go_ret
    exact ⟨by rw [eqI_len HL.out]; rfl, 0, rfl⟩

end Go.Proofs.Ytfofabbnbmieoaa

/- The contract of lit.sorted at the order lit.Less, for at most one element; small lemmas. -/
namespace Go.Proofs.Ytfofabbnbmieoaa
open Go.RowKit

theorem SlV.drop {w : World} {b off : Nat} {vs : List Value} (h : SlV w (some ⟨b, off, none⟩) vs) (k : Nat) : SlV w (some ⟨b, off + k, none⟩) (vs.drop k) := by
  intro j v hj
  rw [List.getElem?_drop] at hj
  obtain ⟨b', off', he, hc⟩ := h (k + j) v hj
  simp at he
  obtain ⟨rfl, rfl⟩ := he
  exact ⟨b, off + k, rfl, by rw [Nat.add_assoc]; exact hc⟩

theorem SlV.take {w : World} {a : Option Addr} {vs : List Value} (h : SlV w a vs) (k : Nat) : SlV w a (vs.take k) := by
  intro j v hj
  rw [List.getElem?_take] at hj
  split at hj
  · exact h j v hj
  · cases hj

theorem ints_take (xs : List Int) (k : Nat) : ints (xs.take k) = (ints xs).take k := by simp [ints]
theorem ints_drop (xs : List Int) (k : Nat) : ints (xs.drop k) = (ints xs).drop k := by simp [ints]

theorem lit_Less' (a b : Int) (r : Bool) (w : World) (hr : lessB a b = r) (ha : I64 a) (hb : I64 b) :
    Calls Try.prog 18 #[.int .i64 a, .int .i64 b] w fun e w' => e = .returned (.bool r) ∧ w = w' := hr ▸ lit_Less a b w ha hb

set_option maxHeartbeats 400000 in
theorem lit_sorted_short (a : Option Addr) (xs : List Int) (m cap : Nat) (w : World) (hm : m = xs.length) (hcap : a = none → cap = 0) (hs : SlV w a (ints xs)) (h2 : xs.length < 2) :
    Calls Try.prog 40 #[.slice a m cap, .func (.func 18) #[] #[]] w fun e w' =>
      ∃ v, e = .returned v ∧ w'.ownsRow w.heap.size 3 1 v xs.length (ints xs) ∧ Below w.heap.size w w' := by
  subst hm
  obtain ⟨i0, hi, hz0, hz1, hz2⟩ := info_parts info_int
  have hd : decide ((xs.length : Int) < 2) = true := by simp; omega
  have HC := hid hcap
  clear hcap
  go_enter Try.func40, Try.ntmps40
  go_wp2_with (at_builtin; refine wpList_append_sl _ rfl _ _ 22 rfl w.heap.size 3 i0 (.int .i64 0) 8 Try.underlying22 hi hz0 hz1 hz2 rfl (.slice none 0 0) 0 [] rfl (World.ownsRow_nil _ _ _ _) a xs.length cap (ints xs) rfl hs (by simp) HC.out ints_one (by unfold maxLen; omega) (by omega) (Nat.le_refl _) ?_; intro v8 w8 ho8 hg8)
  have hb8 : Below w.heap.size w w8 := (Below.refl _ _).grown hg8 (Nat.le_refl _) (fun q hq => by simp [Value.ownBlock] at hq)
  go_ret
  exact ⟨_, rfl, by simpa using ho8, hb8⟩

end Go.Proofs.Ytfofabbnbmieoaa

/- The contract of lit.sorted at the order lit.Less. -/
namespace Go.Proofs.Ytfofabbnbmieoaa
open Go.RowKit

set_option maxHeartbeats 4000000 in
theorem lit_sorted (n : Nat) : ∀ (a : Option Addr) (xs : List Int) (m cap : Nat) (w : World), xs.length ≤ n → m = xs.length → m ≤ cap → (a = none → cap = 0) → SlV w a (ints xs) → (∀ x ∈ xs, I64 x) → xs.length ≤ 4294967296 →
    Calls Try.prog 40 #[.slice a m cap, .func (.func 18) #[] #[]] w fun e w' =>
      ∃ v, e = .returned v ∧ w'.ownsRow w.heap.size 3 1 v (msort n xs).length (ints (msort n xs)) ∧ Below w.heap.size w w' := by
  induction n with
  | zero =>
    intro a xs m cap w hn hm hcap hc0 hs hx hl
    have hx0 : xs = [] := List.eq_nil_of_length_eq_zero (by omega)
    exact lit_sorted_short a xs m cap w hm hc0 hs (by rw [hx0]; decide)
  | succ n ih =>
    intro a xs m cap w hn hm hcap hc0 hs hx hl
    by_cases h2 : xs.length < 2
    · have := lit_sorted_short a xs m cap w hm hc0 hs h2
      rw [msort, if_pos h2]
      exact this
    clear hc0
    subst hm
    obtain ⟨B, hB⟩ : ∃ B, B = w.heap.size := ⟨_, rfl⟩
    rw [← hB]
    have HB := hid hB
    have H := hid hx
    have IH := hid ih
    clear hB hx ih
    · obtain ⟨b0, off0, x0, rfl, -, -⟩ := hs.int (show 0 < xs.length by omega)
      have hd : decide ((xs.length : Int) < 2) = false := by simp; omega
      obtain ⟨hf, hh⟩ : ∃ hf : Nat, xs.length / 2 = hf := ⟨_, rfl⟩
      have hh1 : (xs.length : Int) / 2 = hf := by omega
      have hh2 : 2 * hf ≤ xs.length := by omega
      have hh3 : xs.length ≤ 2 * hf + 1 := by omega
      have hh4 : 1 ≤ hf := by omega
      have hh5 : hf < cap := by omega
      have HH := hid hh
      clear hh h2
      have hsA : SlV w (some ⟨b0, off0, none⟩) (ints (xs.take hf)) := by rw [ints_take]; exact hs.take hf
      have hsB : SlV w (some ⟨b0, off0 + hf, none⟩) (ints (xs.drop hf)) := by rw [ints_drop]; exact hs.drop hf
      go_enter Try.func40, Try.ntmps40
      go_wp2_with fail
      have HH1 := hid hh1
      clear hh1
      go_cut [6, 7] (fun s6 s7 wx => Hid (SlI wx s6 (msort n (xs.take hf))) ∧ Hid (SlI wx s7 (msort n (xs.drop hf))) ∧ Below B w wx)
      case first =>
        go_region_with (first
          | (go_at_call_of 40 (Value.slice (some ⟨b0, off0, none⟩) hf hf); refine (IH.out _ (xs.take hf) _ _ _ (by simp; omega) (by simp; omega) (Nat.le_refl _) (by nofun) ?_ (fun x hx => H.out x (List.mem_of_mem_take hx)) (by simp; omega)).mono ?_; exact hsA; rintro e w1 ⟨v1, rfl, ho1, hb1⟩)
          | (go_at_call 40; refine (IH.out _ (xs.drop hf) _ _ _ (by simp; omega) (by simp) (by omega) (by nofun) ?_ (fun x hx => H.out x (List.mem_of_mem_drop hx)) (by simp; omega)).mono ?_; exact SlV.below (w := w.drew) hsB hb1; rintro e w2 ⟨v2, rfl, ho2, hb2⟩))
        all_goals
          have R1 : SlI w2 v1 (msort n (xs.take hf)) := (own_sli ho1).below hb2
          have R2 : SlI w2 v2 (msort n (xs.drop hf)) := own_sli ho2
          have R3 : Below B w w2 := by rw [HB.out]; exact (((Below.refl _ w).drew).trans hb1).trans (hb2.mono hb1.size)
          clear ho1 ho2 hb1 hb2
          go_wp2_with fail
          go_meet
          case rel => exact ⟨R1, R2, R3⟩
      case rest =>
        obtain ⟨RA, RB, hb0⟩ := hcut
        obtain ⟨A, hA⟩ : ∃ A, A = msort n (xs.take hf) := ⟨_, rfl⟩
        obtain ⟨C, hC⟩ : ∃ C, C = msort n (xs.drop hf) := ⟨_, rfl⟩
        rw [← hA] at RA
        rw [← hC] at RB
        have HA := hid hA
        have HC := hid hC
        have hlA : A.length ≤ hf := by rw [hA]; have := msort_length n (xs.take hf); simp at this; omega
        have hlC : C.length ≤ xs.length - hf := by rw [hC]; have := msort_length n (xs.drop hf); simpa using this
        have hxA : ∀ x ∈ A, I64 x := fun x hx => H.out x (List.mem_of_mem_take (mem_msort n _ (hA ▸ hx)))
        have hxC : ∀ x ∈ C, I64 x := fun x hx => H.out x (List.mem_of_mem_drop (mem_msort n _ (hC ▸ hx)))
        clear hA hC
        have HXA := hid hxA
        have HXC := hid hxC
        clear hxA hxC hd hs hsA hsB
        obtain ⟨a1, c1, rfl, hle1, hn1, hs1⟩ := RA
        obtain ⟨a2, c2, rfl, hle2, hn2, hs2⟩ := RB
        obtain ⟨i0, hi, hz0, hz1, hz2⟩ := info_parts info_int
        have HN1 := hid hn1
        have HN2 := hid hn2
        clear hn1 hn2
        have hbs := hb0.size
        go_wp2_with (at_make; refine wpList_make_own _ rfl _ _ 22 rfl wc.heap.size 3 i0 (.int .i64 0) 1 Try.underlying22 hi hz0 hz1 _ _ _ (A.length + C.length) rfl rfl (by omega) (by rw [hz2]; omega) (by unfold maxLen; omega) (Nat.le_refl _) ?_; intro w3 hown3 hgrow3)
        have hb3 : Below wc.heap.size wc w3 := (Below.refl _ _).grown hgrow3 (Nat.le_refl _) (by simp)
        have HO3 := hid hown3
        clear hown3 hgrow3
        go_wp2_with fail
        go_loopw [6, 7, 8] (fun s6 s7 s8 wr => ∃ l1 l2 lo : List Int, Hid (SlI wc s6 l1) ∧ Hid (SlI wc s7 l2) ∧ Hid (wr.ownsRow wc.heap.size 3 1 s8 lo.length (ints lo)) ∧ Below wc.heap.size wc wr ∧ Hid (lo ++ mrg l1 l2 = mrg A C) ∧
            Hid (∀ x ∈ l1, I64 x) ∧ Hid (∀ x ∈ l2, I64 x) ∧ l1.length + l2.length + lo.length ≤ 4294967296) (fun s6 s7 _ _ => lenOfV s6 + lenOfV s7)
        case atStart => exact ⟨A, C, [], ⟨a1, c1, rfl, hle1, HN1.out, hs1⟩, ⟨a2, c2, rfl, hle2, HN2.out, hs2⟩, HO3.out, hb3, rfl, HXA, HXC, by simp; omega⟩
        case round =>
          obtain ⟨l1, l2, lo, RA, RB, RO, hbr, HM, HXa, HXb, htot⟩ := hrel
          obtain ⟨a1, c1, rfl, hle1, hn1, hs1⟩ := RA
          obtain ⟨a2, c2, rfl, hle2, hn2, hs2⟩ := RB
          have HN1 := hid hn1
          have HN2 := hid hn2
          clear hn1 hn2 HO3 hb3
          have hbz := hbr.size
          by_cases hex : l1 = [] ∨ l2 = []
          · have hmrg : mrg l1 l2 = l1 ++ l2 := by rcases hex with h | h <;> subst h <;> simp [mrg_nil_left, mrg_nil_right]
            have HMR := hid hmrg
            clear hmrg
            have hsr1 := hs1.below hbr
            have hsr2 := hs2.below hbr
            have hd : decide (0 < l1.length) = false ∨ (decide (0 < l1.length) = true ∧ decide (0 < l2.length) = false) := by
              rcases hex with h | h
              · subst h; simp
              · subst h
                cases l1 with
                | nil => simp
                | cons x l => right; exact ⟨by simp, by simp⟩
            clear hex
            rcases hd with hd1 | ⟨hd1, hd2⟩
            all_goals
              go_wp2_with (first
                | (at_builtin; refine wpList_append_sl _ rfl (.tmp 78) (.tmp 79) 22 rfl wc.heap.size 3 i0 (.int .i64 0) 8 Try.underlying22 hi hz0 hz1 hz2 rfl _ lo.length (ints lo) rfl RO.out _ l1.length _ (ints l1) rfl hsr1 (by simp) HN1.out ints_one (by unfold maxLen; omega) (by omega) hbz ?_; intro v8 w8 ho8 hg8; have hb8 : Below wc.heap.size wc w8 := hbr.grown hg8 hbz (fun q hq => (RO.out.lt q hq).1); have HO8 := hid ho8; have hbz8 := hb8.size; have hsr3 := hs2.below hb8; clear ho8 hg8)
                | (at_builtin; refine wpList_append_sl _ rfl (.tmp 80) (.tmp 81) 22 rfl wc.heap.size 3 i0 (.int .i64 0) 8 Try.underlying22 hi hz0 hz1 hz2 rfl _ _ _ rfl HO8.out _ l2.length _ (ints l2) rfl hsr3 (by simp) HN2.out ints_one (by unfold maxLen; omega) (by omega) hbz8 ?_; intro v9 w9 ho9 hg9; have hb9 : Below wc.heap.size wc w9 := hb8.grown hg9 hbz8 (fun q hq => (HO8.out.lt q hq).1); have HO9 := hid ho9; clear ho9 hg9))
              have hms : msort (n + 1) xs = lo ++ l1 ++ l2 := by
                rw [msort, if_neg (by omega), HH.out, ← HA.out, ← HC.out, ← HM.out, HMR.out, List.append_assoc]
              have HMS := hid hms
              clear hms
              go_ret
              refine ⟨_, rfl, ?_, ?_⟩
              · rw [HMS.out, ints_append, ints_append, List.length_append, List.length_append]
                exact own_base HO9.out (by have := HB.out; omega)
              · exact hb0.trans (hb9.mono (by have := HB.out; omega))
          · obtain ⟨x, l1', rfl⟩ : ∃ x l, l1 = x :: l := by
              cases l1 with
              | nil => exact (hex (Or.inl rfl)).elim
              | cons x l => exact ⟨x, l, rfl⟩
            obtain ⟨y, l2', rfl⟩ : ∃ x l, l2 = x :: l := by
              cases l2 with
              | nil => exact (hex (Or.inr rfl)).elim
              | cons x l => exact ⟨x, l, rfl⟩
            clear hex
            have hx64 : I64 x := HXa.out x (by simp)
            have hy64 : I64 y := HXb.out y (by simp)
            obtain ⟨b1, o1, rfl, hcx⟩ := (hs1.below hbr).head
            obtain ⟨b2, o2, rfl, hcy⟩ := (hs2.below hbr).head
            obtain ⟨A1, hrun1, hst1⟩ := tail_run (P := Try.prog) (t := 22) (e := 3) Try.underlying22 (fun wx => by simp [sizeOf, typeInfo, hi, hz1]) (n := l1'.length + 1) hs1 (by simp) hle1
            rw [List.length_map] at hrun1
            obtain ⟨A2, hrun2, hst2⟩ := tail_run (P := Try.prog) (t := 22) (e := 3) Try.underlying22 (fun wx => by simp [sizeOf, typeInfo, hi, hz1]) (n := l2'.length + 1) hs2 (by simp) hle2
            rw [List.length_map] at hrun2
            have hown := RO.out
            have hlo : lo.length + 1 ≤ maxLen := by unfold maxLen; simp at htot; omega
            have HLO := hid hlo
            clear hlo
            cases hxy : lessB x y with
            | true =>
              have HXY := hid hxy
              clear hxy
              go_wp2_with fail
              go_quiet ((go_at_call 18; exact quiet_same (lit_Less' _ _ _ _ HXY.out (by assumption) (by assumption))))
              go_wp2_with fail
              have hb1 : (lo.length + 1) * 8 ≤ 140737488355328 := by simp at htot; omega
              go_region_law (refine step_append_sl rfl _ _ 22 rfl wc.heap.size 3 i0 (.int .i64 0) 8 Try.underlying22 hi hz0 hz1 hz2 rfl u8 lo.length (ints lo) rfl ?_ _ 1 _ [.int .i64 x] rfl ?_ rfl nofun one_int HLO.out hb1 ?_ ?_; exact hown.alloc _; exact slv_new_dr _ _ _ _ _; (first | (simp; omega) | omega); intro v8 w8 ho8 hg8)
              all_goals
                have HO8 := hid ho8
                have hb8 : Below wc.heap.size wc w8 := ((below_dr hbr _).alloc (by simp; omega) _).grown hg8 (by simp; omega) (fun q hq => (hown.lt q hq).1)
                clear ho8 hg8
                go_simp
                go_wp2_with fail
                go_roundw
                case rel =>
                  refine ⟨l1', y :: l2', lo ++ [x], ⟨_, _, rfl, by simp at hle1; omega, nofun, hst1⟩, ⟨_, _, rfl, hle2, nofun, hs2⟩, ?_, hb8, ?_, fun z hz => HXa.out z (by simp [hz]), HXb, by simp at htot ⊢; omega⟩
                  · simp only [List.length_append, List.length_singleton, ints_append]; exact HO8.out
                  · have := HM.out
                    rw [mrg_cons, if_pos HXY.out] at this
                    simpa [Hid] using this
                case measure => simp [lenOfV]
            | false =>
              have HXY := hid hxy
              clear hxy
              cases hyx : lessB y x with
              | true =>
                have HYX := hid hyx
                clear hyx
                go_wp2_with fail
                go_quiet ((go_at_call 18; exact quiet_same (lit_Less' _ _ _ _ HXY.out (by assumption) (by assumption))))
                go_wp2_with fail
                go_quiet ((go_at_call 18; first | exact quiet_same2 (lit_Less' _ _ _ _ HYX.out (by assumption) (by assumption)) | exact quiet_same (lit_Less' _ _ _ _ HYX.out (by assumption) (by assumption))))
                go_wp2_with fail
                have hb1 : (lo.length + 1) * 8 ≤ 140737488355328 := by simp at htot; omega
                go_region_law (refine step_append_sl rfl _ _ 22 rfl wc.heap.size 3 i0 (.int .i64 0) 8 Try.underlying22 hi hz0 hz1 hz2 rfl u8 lo.length (ints lo) rfl ?_ _ 1 _ [.int .i64 y] rfl ?_ rfl nofun one_int HLO.out hb1 ?_ ?_; exact hown.alloc _; exact slv_new_dr _ _ _ _ _; (first | (simp; omega) | omega); intro v8 w8 ho8 hg8)
                all_goals
                  have HO8 := hid ho8
                  have hb8 : Below wc.heap.size wc w8 := ((below_dr hbr _).alloc (by simp; omega) _).grown hg8 (by simp; omega) (fun q hq => (hown.lt q hq).1)
                  clear ho8 hg8
                  go_simp
                  go_wp2_with fail
                  go_roundw
                  case rel =>
                    refine ⟨x :: l1', l2', lo ++ [y], ⟨_, _, rfl, hle1, nofun, hs1⟩, ⟨_, _, rfl, by simp at hle2; omega, nofun, hst2⟩, ?_, hb8, ?_, HXa, fun z hz => HXb.out z (by simp [hz]), by simp at htot ⊢; omega⟩
                    · simp only [List.length_append, List.length_singleton, ints_append]; exact HO8.out
                    · have := HM.out
                      rw [mrg_cons, if_neg (by simp [HXY.out]), if_pos HYX.out] at this
                      simpa [Hid] using this
                  case measure => simp [lenOfV]
              | false =>
                have HYX := hid hyx
                clear hyx
                go_wp2_with fail
                go_quiet ((go_at_call 18; exact quiet_same (lit_Less' _ _ _ _ HXY.out (by assumption) (by assumption))))
                go_wp2_with fail
                go_quiet ((go_at_call 18; first | exact quiet_same2 (lit_Less' _ _ _ _ HYX.out (by assumption) (by assumption)) | exact quiet_same (lit_Less' _ _ _ _ HYX.out (by assumption) (by assumption))))
                go_wp2_with fail
                go_roundw
                case rel =>
                  refine ⟨l1', y :: l2', lo, ⟨_, _, rfl, by simp at hle1; omega, nofun, hst1⟩, ⟨_, _, rfl, hle2, nofun, hs2⟩, RO, ?_, ?_, fun z hz => HXa.out z (by simp [hz]), HXb, by simp at htot ⊢; omega⟩
                  · first | exact below_dr hbr _ | exact below_dr (below_dr hbr _) _
                  · have := HM.out
                    rw [mrg_cons, if_neg (by simp [HXY.out]), if_neg (by simp [HYX.out])] at this
                    exact this
                case measure => simp [lenOfV]

end Go.Proofs.Ytfofabbnbmieoaa

/- Plain facts about lit.Norm's literals, used by its walk. -/
namespace Go.Proofs.Ytfofabbnbmieoaa
open Go.RowKit

/-- What lit.Norm has after the sort: without a leading 0. -/
def normL (xs : List Int) : List Int := if (msort xs.length xs).head? = some 0 then (msort xs.length xs).tail else msort xs.length xs

/-- The elements i-1 and i are a literal and its negative. -/
def adjAt (l : List Int) (i : Nat) : Bool := decide (1 ≤ i) && ((l.getD i 0).natAbs == (l.getD (i - 1) 0).natAbs)

/-- Two neighbours are a literal and its negative. -/
def adjB (l : List Int) : Bool := (List.range l.length).any (adjAt l)

/-- lit.Norm's literals. -/
def normV (xs : List Int) : List Int := if adjB (normL xs) then [] else normL xs

theorem range_any_succ {p : Nat → Bool} {k : Nat} (h : (List.range k).any p = false) (hp : p k = false) : (List.range (k + 1)).any p = false := by
  rw [List.range_succ, List.any_append, h]; simp [hp]

theorem range_any_of {p : Nat → Bool} {k n : Nat} (hk : k < n) (hp : p k = true) : (List.range n).any p = true :=
  List.any_eq_true.2 ⟨k, List.mem_range.2 hk, hp⟩

theorem mem_normL {x : Int} {xs : List Int} (h : x ∈ normL xs) : x ∈ xs := by
  unfold normL at h
  split at h
  · exact mem_msort xs.length xs (List.mem_of_mem_tail h)
  · exact mem_msort xs.length xs h

theorem normL_length (xs : List Int) : (normL xs).length ≤ xs.length := by
  have := msort_length xs.length xs
  unfold normL
  split
  · simp; omega
  · exact this

theorem normL_nil {xs : List Int} (h : msort xs.length xs = []) : normL xs = [] := by unfold normL; rw [h]; simp
theorem normL_zero {xs t : List Int} (h : msort xs.length xs = 0 :: t) : normL xs = t := by unfold normL; rw [h]; simp
theorem normL_cons {xs t : List Int} {x : Int} (h : msort xs.length xs = x :: t) (hx : x ≠ 0) : normL xs = x :: t := by
  unfold normL; rw [h]; simp [hx]

theorem adjAt_succ {l : List Int} {j : Nat} {x y : Int} (hx : l[j + 1]? = some x) (hy : l[j]? = some y) : adjAt l (j + 1) = (x.natAbs == y.natAbs) := by
  simp [adjAt, hx, hy]

theorem adjB_of {l : List Int} {j : Nat} {x y : Int} (hx : l[j + 1]? = some x) (hy : l[j]? = some y) (h : ((x.natAbs : Int) == y.natAbs) = true) : adjB l = true := by
  refine range_any_of (k := j + 1) (List.getElem?_eq_some_iff.1 hx).1 ?_
  rw [adjAt_succ hx hy]
  simp at h ⊢; omega

theorem adjB_not {l : List Int} {j : Nat} (hj : ¬ j + 1 < l.length) (h : (List.range (j + 1)).any (adjAt l) = false) : adjB l = false := by
  rw [adjB, List.any_eq_false] at *
  intro i hi
  exact h i (by simp at hi ⊢; omega)

theorem adj_step {l : List Int} {j : Nat} {x y : Int} (hx : l[j + 1]? = some x) (hy : l[j]? = some y) (h : ((x.natAbs : Int) == y.natAbs) = false) (hr : (List.range (j + 1)).any (adjAt l) = false) :
    (List.range (j + 1 + 1)).any (adjAt l) = false := by
  refine range_any_succ hr ?_
  rw [adjAt_succ hx hy]
  simp at h ⊢; omega

theorem normV_true {xs : List Int} (h : adjB (normL xs) = true) : normV xs = [] := by simp [normV, h]
theorem normV_false {xs : List Int} (h : adjB (normL xs) = false) : normV xs = normL xs := by simp [normV, h]

theorem ownT_shape {e : TypeId} {w : World} {B : Nat} {v : Value} {xs : List Int} (h : OwnT e w B v xs) : ∃ a c, v = .slice a xs.length c ∧ OwnT e w B (.slice a xs.length c) xs := by
  have h' := h
  obtain ⟨a, c, h1, -⟩ := h
  exact ⟨a, c, h1, h1 ▸ h'⟩

theorem OwnT.slv {e : TypeId} {w : World} {B n c : Nat} {a : Option Addr} {xs : List Int} (h : OwnT e w B (.slice a n c) xs) : SlV w a (ints xs) := by
  obtain ⟨a', c', h1, -, -, h4⟩ := h.sli
  simp only [Value.slice.injEq] at h1
  obtain ⟨rfl, -, -⟩ := h1
  exact h4

end Go.Proofs.Ytfofabbnbmieoaa

/- The contract of lit.Norm. -/
namespace Go.Proofs.Ytfofabbnbmieoaa
open Go.RowKit

theorem sizeOf_int (wx : World) : (sizeOf 3).run Try.prog wx = .ok 1 wx := by kernel_rfl

set_option maxHeartbeats 1000000 in
theorem lit_Norm (a : Option Addr) (xs : List Int) (m cap : Nat) (w : World) (hm : m = xs.length) (hcap : m ≤ cap) (hc0 : a = none → cap = 0) (hs : SlV w a (ints xs)) (hx : ∀ x ∈ xs, I64 x) (hl : xs.length ≤ 4294967296) :
    Calls Try.prog 14 #[.slice a m cap] w fun e w' =>
      ∃ v, e = .returned (.tuple #[v, .bool (adjB (normL xs))]) ∧ OwnT 3 w' w.heap.size v (normV xs) ∧ Below w.heap.size w w' := by
  subst hm
  have hc := fun w => lit_sorted xs.length a xs xs.length cap w (Nat.le_refl _) rfl hcap hc0
  have HC := hid hc
  have HX := hid hx
  have HS := hid hs
  clear hc hc0 hx hs
  obtain ⟨L0, hL0⟩ : ∃ L0, L0 = msort xs.length xs := ⟨_, rfl⟩
  obtain ⟨L, hL⟩ : ∃ L, L = normL xs := ⟨_, rfl⟩
  have HL0 := hid hL0
  have HL := hid hL
  have hlen : L.length ≤ 4294967296 := by rw [hL]; exact Nat.le_trans (normL_length xs) hl
  have hxL : ∀ x ∈ L, I64 x := fun x h => HX.out x (mem_normL (hL ▸ h))
  have HXL := hid hxL
  rw [← hL]
  obtain ⟨B, hB⟩ : ∃ B, B = w.heap.size := ⟨_, rfl⟩
  rw [← hB]
  have HB := hid hB
  clear hL0 hL hxL hB
  rcases hcase : L0 with _ | ⟨z, t⟩
  · have HLn : Hid (L = []) := by rw [HL.out]; exact normL_nil (by rw [← HL0.out, hcase])
    have HCase := hid hcase
    clear hcase
    go_enter Try.func14, Try.ntmps14
    go_wp2_with (go_at_call 40; refine (HC.out _ HS.out HX.out hl).mono ?_; rintro e w1 ⟨v1, rfl, ho1, hb1⟩; rw [← HL0.out, HCase.out] at ho1; rw [← HB.out] at ho1 hb1; obtain ⟨a1, c1, rfl, ho2⟩ := ownT_shape (HLn.out ▸ ownT_of_own ho1 : OwnT 3 w1 B v1 L); have hl0 : decide (0 < L.length) = false := by rw [HLn.out]; rfl)
    clear hl0
    go_loopw [5] (fun i wr => ∃ j nd : Nat, j ≤ L.length ∧ wr = w1.drewN nd ∧ i = .int .i64 ((j : Int) + 1) ∧ Hid ((List.range (j + 1)).any (adjAt L) = false)) (fun i _ => L.length + 1 - (intOf i).toNat)
    case atStart => exact ⟨0, 0, Nat.zero_le _, rfl, rfl, rfl⟩
    case round =>
      obtain ⟨j, nd, hj, rfl, rfl, hrel⟩ := hrel
      by_cases hlt : j + 1 < L.length
      · obtain ⟨b, off, x, rfl, hc, hx⟩ := (OwnT.slv ho2).int hlt
        obtain ⟨b', off', y, hbb, hd, hy⟩ := (OwnT.slv ho2).int (k := j) (by omega)
        simp at hbb
        obtain ⟨rfl, rfl⟩ := hbb
        have hx64 : I64 x := HXL.out x (List.mem_of_getElem? hx)
        have hy64 : I64 y := HXL.out y (List.mem_of_getElem? hy)
        have HX1 := hid hx
        have HY1 := hid hy
        have HO2 := hid ho2
        have e1 : IntKind.i64.wrap ((j : Int) + 1 - 1) = (j : Int) := by rw [IntWalk.i64_in _ (by omega)]; omega
        have e1' : IntKind.i64.wrap (j : Int) = (j : Int) := IntWalk.i64_in (j : Int) (by omega)
        have e2 : 0 ≤ (j : Int) + 1 := by omega
        have e3 : ((j : Int) + 1).toNat = j + 1 := by omega
        have e4 : (j : Int) + 1 < L.length := by omega
        have e5 : (j : Int) < L.length := by omega
        clear hx hy ho2
        go_wp2_with fail
        go_quiet ((go_at_call 41; first | exact quiet_same2 (lit_size _ _ (by assumption)) | exact quiet_same (lit_size _ _ (by assumption))))
        clear e1 e1' e2 e3
        go_wp2_with fail
        · have hne : ((x.natAbs : Int) == y.natAbs) = true := by assumption
          go_ret2
          have hadj := adjB_of HX1.out HY1.out hne
          rw [hadj, normV_true (HL.out ▸ hadj)]
          exact ⟨_, rfl, ⟨none, 0, rfl, Nat.le_refl _, fun _ => rfl, nofun⟩, by first | exact below_dr hb1 _ | exact below_dr (below_dr hb1 _) _⟩
        · have hne : ((x.natAbs : Int) == y.natAbs) = false := by assumption
          go_roundw
          case rel => exact ⟨j + 1, _, by omega, (by first | rfl | exact World.drewN_drewN ..), by go_num, adj_step HX1.out HY1.out hne hrel⟩
          case measure => simp [intOf]; omega
      · have hadj := adjB_not hlt hrel
        have HADJ := hid hadj
        clear hadj
        go_wp2_with fail
        go_ret2
        rw [HADJ.out, normV_false (HL.out ▸ HADJ.out), ← HL.out]
        exact ⟨_, rfl, ho2, by first | exact below_dr hb1 _ | exact below_dr (below_dr hb1 _) _⟩
  · by_cases hz : z = 0
    · have HLn : Hid (L = t) := by rw [HL.out]; exact normL_zero (by rw [← HL0.out, hcase, hz])
      have HCase : Hid (L0 = 0 :: L) := by rw [HLn.out, hcase, hz]; rfl
      clear hcase hz
      go_enter Try.func14, Try.ntmps14
      go_wp2_with (go_at_call 40; refine (HC.out _ HS.out HX.out hl).mono ?_; rintro e w1 ⟨v1, rfl, ho1, hb1⟩; rw [← HL0.out, HCase.out] at ho1; rw [← HB.out] at ho1 hb1; obtain ⟨a0, c0, rfl, ho0⟩ := ownT_shape (ownT_of_own ho1); obtain ⟨A1, hrun1, ho2⟩ := ownT_tail Try.underlying22 sizeOf_int ho0; obtain ⟨b0, o0, rfl, hcell0⟩ := (OwnT.slv ho0).head; simp only [List.length_cons] at hrun1; clear ho1 ho0)
      generalize hA1 : (some A1) = a1 at ho2
      generalize hC1 : c0 - 1 = c1 at ho2
      clear hA1 hC1
      go_loopw [5] (fun i wr => ∃ j nd : Nat, j ≤ L.length ∧ wr = w1.drewN nd ∧ i = .int .i64 ((j : Int) + 1) ∧ Hid ((List.range (j + 1)).any (adjAt L) = false)) (fun i _ => L.length + 1 - (intOf i).toNat)
      case atStart => exact ⟨0, 0, Nat.zero_le _, rfl, rfl, rfl⟩
      case round =>
        obtain ⟨j, nd, hj, rfl, rfl, hrel⟩ := hrel
        by_cases hlt : j + 1 < L.length
        · obtain ⟨b, off, x, rfl, hc, hx⟩ := (OwnT.slv ho2).int hlt
          obtain ⟨b', off', y, hbb, hd, hy⟩ := (OwnT.slv ho2).int (k := j) (by omega)
          simp at hbb
          obtain ⟨rfl, rfl⟩ := hbb
          have hx64 : I64 x := HXL.out x (List.mem_of_getElem? hx)
          have hy64 : I64 y := HXL.out y (List.mem_of_getElem? hy)
          have HX1 := hid hx
          have HY1 := hid hy
          have HO2 := hid ho2
          have e1 : IntKind.i64.wrap ((j : Int) + 1 - 1) = (j : Int) := by rw [IntWalk.i64_in _ (by omega)]; omega
          have e1' : IntKind.i64.wrap (j : Int) = (j : Int) := IntWalk.i64_in (j : Int) (by omega)
          have e2 : 0 ≤ (j : Int) + 1 := by omega
          have e3 : ((j : Int) + 1).toNat = j + 1 := by omega
          have e4 : (j : Int) + 1 < L.length := by omega
          have e5 : (j : Int) < L.length := by omega
          clear hx hy ho2
          go_wp2_with fail
          go_quiet ((go_at_call 41; first | exact quiet_same2 (lit_size _ _ (by assumption)) | exact quiet_same (lit_size _ _ (by assumption))))
          clear e1 e1' e2 e3
          go_wp2_with fail
          · have hne : ((x.natAbs : Int) == y.natAbs) = true := by assumption
            go_ret2
            have hadj := adjB_of HX1.out HY1.out hne
            rw [hadj, normV_true (HL.out ▸ hadj)]
            exact ⟨_, rfl, ⟨none, 0, rfl, Nat.le_refl _, fun _ => rfl, nofun⟩, by first | exact below_dr hb1 _ | exact below_dr (below_dr hb1 _) _⟩
          · have hne : ((x.natAbs : Int) == y.natAbs) = false := by assumption
            go_roundw
            case rel => exact ⟨j + 1, _, by omega, (by first | rfl | exact World.drewN_drewN ..), by go_num, adj_step HX1.out HY1.out hne hrel⟩
            case measure => simp [intOf]; omega
        · have hadj := adjB_not hlt hrel
          have HADJ := hid hadj
          clear hadj
          go_wp2_with fail
          go_ret2
          rw [HADJ.out, normV_false (HL.out ▸ HADJ.out), ← HL.out]
          exact ⟨_, rfl, ho2, by first | exact below_dr hb1 _ | exact below_dr (below_dr hb1 _) _⟩
    · have HLn : Hid (L = z :: t) := by rw [HL.out]; exact normL_cons (by rw [← HL0.out, hcase]) hz
      have HCase : Hid (L0 = L) := by rw [HLn.out, hcase]; rfl
      have hz' : (z == 0) = false := by simp [hz]
      have hl1 : 0 < L.length := by rw [HLn.out]; simp
      clear hcase hz
      go_enter Try.func14, Try.ntmps14
      go_wp2_with (go_at_call 40; refine (HC.out _ HS.out HX.out hl).mono ?_; rintro e w1 ⟨v1, rfl, ho1, hb1⟩; rw [← HL0.out, HCase.out] at ho1; rw [← HB.out] at ho1 hb1; obtain ⟨a1, c1, rfl, ho2⟩ := ownT_shape (ownT_of_own ho1); obtain ⟨b0, o0, rfl, hcell0⟩ := (show SlV w1 a1 (ints (z :: t)) from HLn.out ▸ OwnT.slv ho2).head; clear ho1; have hl0 : decide (0 < L.length) = true := (by rw [HLn.out]; simp))
      clear hl0 hl1 hcell0
      generalize hA1 : (some (⟨b0, o0, none⟩ : Addr)) = a1 at ho2
      clear hA1
      go_loopw [5] (fun i wr => ∃ j nd : Nat, j ≤ L.length ∧ wr = w1.drewN nd ∧ i = .int .i64 ((j : Int) + 1) ∧ Hid ((List.range (j + 1)).any (adjAt L) = false)) (fun i _ => L.length + 1 - (intOf i).toNat)
      case atStart => exact ⟨0, 0, Nat.zero_le _, rfl, rfl, rfl⟩
      case round =>
        obtain ⟨j, nd, hj, rfl, rfl, hrel⟩ := hrel
        by_cases hlt : j + 1 < L.length
        · obtain ⟨b, off, x, rfl, hc, hx⟩ := (OwnT.slv ho2).int hlt
          obtain ⟨b', off', y, hbb, hd, hy⟩ := (OwnT.slv ho2).int (k := j) (by omega)
          simp at hbb
          obtain ⟨rfl, rfl⟩ := hbb
          have hx64 : I64 x := HXL.out x (List.mem_of_getElem? hx)
          have hy64 : I64 y := HXL.out y (List.mem_of_getElem? hy)
          have HX1 := hid hx
          have HY1 := hid hy
          have HO2 := hid ho2
          have e1 : IntKind.i64.wrap ((j : Int) + 1 - 1) = (j : Int) := by rw [IntWalk.i64_in _ (by omega)]; omega
          have e1' : IntKind.i64.wrap (j : Int) = (j : Int) := IntWalk.i64_in (j : Int) (by omega)
          have e2 : 0 ≤ (j : Int) + 1 := by omega
          have e3 : ((j : Int) + 1).toNat = j + 1 := by omega
          have e4 : (j : Int) + 1 < L.length := by omega
          have e5 : (j : Int) < L.length := by omega
          clear hx hy ho2
          go_wp2_with fail
          go_quiet ((go_at_call 41; first | exact quiet_same2 (lit_size _ _ (by assumption)) | exact quiet_same (lit_size _ _ (by assumption))))
          clear e1 e1' e2 e3
          go_wp2_with fail
          · have hne : ((x.natAbs : Int) == y.natAbs) = true := by assumption
            go_ret2
            have hadj := adjB_of HX1.out HY1.out hne
            rw [hadj, normV_true (HL.out ▸ hadj)]
            exact ⟨_, rfl, ⟨none, 0, rfl, Nat.le_refl _, fun _ => rfl, nofun⟩, by first | exact below_dr hb1 _ | exact below_dr (below_dr hb1 _) _⟩
          · have hne : ((x.natAbs : Int) == y.natAbs) = false := by assumption
            go_roundw
            case rel => exact ⟨j + 1, _, by omega, (by first | rfl | exact World.drewN_drewN ..), by go_num, adj_step HX1.out HY1.out hne hrel⟩
            case measure => simp [intOf]; omega
        · have hadj := adjB_not hlt hrel
          have HADJ := hid hadj
          clear hadj
          go_wp2_with fail
          go_ret2
          rw [HADJ.out, normV_false (HL.out ▸ HADJ.out), ← HL.out]
          exact ⟨_, rfl, ho2, by first | exact below_dr hb1 _ | exact below_dr (below_dr hb1 _) _⟩

end Go.Proofs.Ytfofabbnbmieoaa

/- The contracts of the reference's functions of layer 1: size, Less, Check, Holds. -/
namespace Go.Proofs.Ytfofabbnbmieoaa
open Go.RowKit

end Go.Proofs.Ytfofabbnbmieoaa

/- Closed facts about lit.Norm's literals. -/
namespace Go.Proofs.Ytfofabbnbmieoaa
open Go.RowKit

theorem slv_new (w : World) (vs : List Value) (e : TypeId) (m : Nat × Nat) : SlV (w.alloc (.cells vs.toArray e m)) (some ⟨w.heap.size, 0, none⟩) vs := by
  intro j v hj
  refine ⟨w.heap.size, 0, rfl, ?_⟩
  have h : (w.alloc (.cells vs.toArray e m)).heap[w.heap.size]? = some (.cells vs.toArray e m) := heap_alloc_new w _
  rw [cell_of_row _ _ _ _ _ _ h]
  simpa using hj

end Go.Proofs.Ytfofabbnbmieoaa

/- Plain facts about the order of literals. -/
namespace Go.Proofs.Ytfofabbnbmieoaa
open Go.RowKit

theorem lessB_iff (a b : Int) : lessB a b = true ↔ a.natAbs < b.natAbs ∨ (a.natAbs = b.natAbs ∧ b < a) := by
  simp [lessB]

theorem lessB_irrefl (a : Int) : lessB a a = false := by
  rw [Bool.eq_false_iff, Ne, lessB_iff]; omega

theorem lessB_asymm {a b : Int} (h : lessB a b = true) : lessB b a = false := by
  rw [lessB_iff] at h
  rw [Bool.eq_false_iff, Ne, lessB_iff]; omega

theorem lessB_trans {a b c : Int} (h : lessB a b = true) (h' : lessB b c = true) : lessB a c = true := by
  rw [lessB_iff] at *; omega

theorem lessB_tri {a b : Int} (h : lessB a b = false) (h' : lessB b a = false) : a = b := by
  rw [Bool.eq_false_iff, Ne, lessB_iff] at *
  omega

end Go.Proofs.Ytfofabbnbmieoaa
