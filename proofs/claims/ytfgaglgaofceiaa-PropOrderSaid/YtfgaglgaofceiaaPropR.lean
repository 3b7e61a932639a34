/- The contract of prop's run. -/
import Derived.Test.YtfgaglgaofceiaaPropS
namespace Go.Proofs.Ytfgaglgaofceiaa.Ord
open Go.RowKit Go.Conc

/-- How many receives a channel has seen. -/
def rcvd (w : World) (c : Nat) : Nat := match w.heap[c]? with
  | some (.chan _ _ _ _ r _) => r
  | _ => 0

theorem rcvd_dyn {S : Nat → Prop} {w : World} {vo : Value} {bk bc cap d : Nat} {O K : List Int} (h : Dyn S w vo bk bc cap O K d) : rcvd w bc = d := by
  unfold rcvd; rw [h.ch]

theorem len_chan {P : Program} {w : World} {t e : TypeId} {dir : ChanDir} (ht : P.underlying t = some (.chan dir e)) {c cap s r : Nat} {buf : Array Value} {cl tm : Bool} (h : w.heap[c]? = some (.chan cap buf cl s r tm)) (htm : tm = false) (ty : TypeId) :
    (Builtin.len_ #[t] ty #[.chan (some c)]).run P w = .ok (.int .i64 buf.size) w := by
  have hg : (getObj c).run P w = .ok (.chan cap buf cl s r tm) w := by simp [getObj, Sem.run, h]
  simp [Builtin.len_, run_underlying ht, hg, Result.andThen, htm]
  rfl

/-- The head of a round of run's outer loop. -/
def runI (S : Nat → Prop) (b : Nat) (vc vo : Value) (bw bk bc n : Nat) (C : List (List Int)) (es : List (Int × Value)) (A : List Int) (w0 : World) (a : Act) (wr : World) : Prop :=
  ∃ (O K : List Int) (d : Nat), Hid (Fix S wr b vc vo bw bk bc C (withL C) es) ∧ Hid (Dyn S wr vo bk bc (n + 1) O K d) ∧ Hid (PI n C A O K d) ∧ Hid (Touch S w0 wr) ∧ ∃ u1 u2 u3 u4 u5 u6 u7 u8 u9 u10 u11 u12 u13 u14 u15 u16 u17 u18 u19 u20 u21 u22 u23 u24 u25 u26 u27 u28 u29 u30 u31 u32 u33 u34 u35 u36 u37 u38 u39 u40 u41 u42 u43 u44 u45 u46 u47 u48 u49 u50 u51 u52 : Value, a = ⟨#[.pointer (some ⟨b, 0, none⟩), u1, u2, u3, u4, u5, u6, u7, u8, u9, u10, u11, u12, u13, u14, u15, u16, u17, u18, u19, u20, u21, u22, u23, u24, u25, u26, u27, u28, u29, u30, u31, u32, u33, u34, u35, u36, u37, u38, u39, u40, u41, u42, u43, u44, u45, u46, u47, u48, u49, u50, u51, u52], []⟩

/-- What run leaves. -/
def runR (S : Nat → Prop) (bk n : Nat) (C : List (List Int)) (A : List Int) (w0 : World) (e : Ending) (w' : World) : Prop :=
  Touch S w0 w' ∧ ((e = .returned (.bool true) ∧ ∃ K, Closed C A K ∧ (∀ a ∈ K, LitOk n a) ∧ IM w' bk (kes K)) ∨ (e = .returned (.bool false) ∧ Bad C A))

theorem cntO_bounds (c D : List Int) : 0 ≤ cntO c D ∧ cntO c D ≤ c.length := by
  unfold cntO
  have := List.length_filter_le (fun l => decide (-l ∉ D)) c
  omega

theorem ow_open {S : Nat → Prop} {w : World} {vo : Value} {bk bc cap d : Nat} {O K : List Int} (h : Dyn S w vo bk bc cap O K d) {j : Nat} {o : Int} (ho : O[j]? = some o) :
    ∃ g c, vo = .slice (some ⟨g, 0, none⟩) O.length c ∧ w.cell? ⟨g, j, none⟩ = some (.int .i64 o) ∧ w.frozen? ⟨g, j, none⟩ = false ∧ S g := by
  obtain ⟨hj, hoe⟩ := List.getElem?_eq_some_iff.1 ho
  obtain ⟨g, c, rfl⟩ := rw_form h.op (by omega)
  exact ⟨g, c, rfl, by rw [rw_get h.op rfl hj, hoe], rw_free h.op rfl j, h.sO g rfl⟩

theorem dyn_store {S : Nat → Prop} {w : World} {g c : Nat} {bk bc cap d : Nat} {O K : List Int} (h : Dyn S w (.slice (some ⟨g, 0, none⟩) O.length c) bk bc cap O K d) (j : Nat) (x : Int) :
    Dyn S (w.setCell ⟨g, j, none⟩ (.int .i64 x)) (.slice (some ⟨g, 0, none⟩) O.length c) bk bc cap (O.set j x) K d ∧ Touch S w (w.setCell ⟨g, j, none⟩ (.int .i64 x)) := by
  obtain ⟨n1, n2, n3⟩ := dyn_apart h
  have hf : ∀ k, k ≠ g → (w.setCell ⟨g, j, none⟩ (.int .i64 x)).heap[k]? = w.heap[k]? := fun k hk => Below.heap_setCell w ⟨g, j, none⟩ _ k hk
  have h1 := rw_set h.op rfl j x
  exact ⟨⟨h1, h.kn.frame (hf bk (fun e => n1 (by rw [e]; rfl))), (hf bc (fun e => n2 (by rw [e]; rfl))).trans h.ch, h.sO, h.sK, h.sC, h.le⟩, (Touch.refl S w).setCell (h.sO g rfl) _⟩

theorem dyn_recv {S : Nat → Prop} {w : World} {vo : Value} {bk bc cap d : Nat} {O K : List Int} (h : Dyn S w vo bk bc cap O K d) (hd : d < K.length) :
    Dyn S (w.setChan bc cap ((ints (K.drop d)).toArray.extract 1 (ints (K.drop d)).toArray.size) false K.length (d + 1) false) vo bk bc cap O K (d + 1) ∧ Touch S w (w.setChan bc cap ((ints (K.drop d)).toArray.extract 1 (ints (K.drop d)).toArray.size) false K.length (d + 1) false) := by
  obtain ⟨n1, n2, n3⟩ := dyn_apart h
  have tC := touch_chan w bc cap ((ints (K.drop d)).toArray.extract 1 (ints (K.drop d)).toArray.size) false K.length (d + 1) false
  have hcl := (Array.getElem?_eq_some_iff.1 h.ch).1
  refine ⟨⟨rw_frame h.op fun k hk => tC.block k (rw_lt h.op k hk) (fun e => n2 (by rw [hk, e])), h.kn.frame (tC.block bk h.kn.lt n3), ?_, h.sO, h.sK, h.sC, hd⟩, tC.mono fun k _ hk => by rw [hk]; exact h.sC⟩
  rw [heap_setChan _ _ _ _ _ _ _ _ hcl]
  congr 2
  apply Array.ext'
  simp [ints]
  exact List.take_of_length_le (by simp; omega)

set_option maxRecDepth 100000 in
set_option maxHeartbeats 8000000 in
theorem prop_run (S : Nat → Prop) (b : Nat) (vc vo : Value) (bw bk bc d n : Nat) (C : List (List Int)) (es : List (Int × Value)) (A O K : List Int) (w : World) (hn : n ≤ 1048576) (hCl : C.length ≤ 4294967296) (hcl : ∀ c ∈ C, c.length ≤ 4294967296) (hF : Fix S w b vc vo bw bk bc C (withL C) es) (hD : Dyn S w vo bk bc (n + 1) O K d) (hP : PI n C A O K d) :
    Calls Try.prog 48 #[.pointer (some ⟨b, 0, none⟩)] w (runR S bk n C A w) := by
  have HF := hid hF
  have HD := hid hD
  have HP := hid hP
  have HCL := hid hcl
  clear hF hD hP hcl
  refine calls_of_wpN Try.func48 rfl ?_
  simp only [Try.ntmps48, List.size_toArray, List.length_cons, List.length_nil, Nat.reduceAdd, Nat.reduceSub, Array.replicate_succ, Array.replicate_zero, List.push_toArray, List.append_toArray, List.nil_append, List.cons_append]
  refine wpN_seq ?_
  go_wp2_with fail
  refine wpN_seqN (wpN_block (wpN_loop (runI S b vc vo bw bk bc n C es A w) (fun _ wr => n + 1 - rcvd wr bc) ?h0 ?round))
  case h0 =>
    refine ⟨O, K, d, HF, HD, HP, Touch.refl _ _, ?_⟩
    repeat (apply Exists.intro)
    rfl
  case round =>
    clear HF HD HP
    rintro a wr ⟨O, K, d, HF, HD, HP, HT, u1, u2, u3, u4, u5, u6, u7, u8, u9, u10, u11, u12, u13, u14, u15, u16, u17, u18, u19, u20, u21, u22, u23, u24, u25, u26, u27, u28, u29, u30, u31, u32, u33, u34, u35, u36, u37, u38, u39, u40, u41, u42, u43, u44, u45, u46, u47, u48, u49, u50, u51, u52, rfl⟩
    obtain ⟨-, hc1, hc2, hc3, hc4⟩ := HF.out.now.cells
    have hlen := fun ty => len_chan (P := Try.prog) Try.underlying73 HD.out.ch rfl ty
    have hsz : (ints (K.drop d)).toArray.size = K.length - d := by simp
    rw [hsz] at hlen
    have hkn := lits_le HP.out.knod HP.out.cons HP.out.kok
    have hde := HP.out.le
    by_cases hlt : d < K.length
    · have hd0 : decide ((0 : Int) < ((K.length - d : Nat) : Int)) = true := decide_eq_true (by omega)
      refine wpN_seq ?_
      go_wp2_with fail
      rename_i hpos
      rw [decide_eq_true hpos]
      clear hpos hd0
      refine wpN_block (wpN_seqN ?_)
      refine wpN_region ?_
      simp only [List.size_toArray, List.length_cons, List.length_nil, Nat.reduceAdd, List.range, List.range.loop]
      obtain ⟨x, hx⟩ : ∃ x, K[d]? = some x := ⟨_, List.getElem?_eq_getElem hlt⟩
      have hbuf : (ints (K.drop d)).toArray.getD 0 undef = .int .i64 x := by
        obtain ⟨h1, h2⟩ := List.getElem?_eq_some_iff.1 hx
        rw [List.drop_eq_getElem_cons h1, h2]
        rfl
      obtain ⟨hD2, hT2⟩ := dyn_recv HD.out hlt
      refine opsN_value rfl rfl (v := .pointer (some ⟨b, 0, none⟩)) (w' := wr) (by simp [go_sem]) ?_
      walk_nrm
      refine opsN_value rfl rfl (v := .pointer (some ⟨b, 0, none⟩)) (w' := wr) (by simp [go_sem]) ?_
      walk_nrm
      refine opsN_value rfl rfl (v := .pointer (some ⟨b, 4, none⟩)) (w' := wr) (by simp [go_sem]) ?_
      walk_nrm
      refine opsN_value rfl rfl (v := .chan (some bc)) (w' := wr) (by simp [go_sem, hc4]) ?_
      walk_nrm
      refine opsN_recv (z := .int .i64 0) rfl rfl (by simp [go_sem, rcase]; done) HD.out.ch (by rw [hsz]; omega) ?_
      rw [hbuf]
      generalize hw2 : wr.setChan bc _ _ _ _ _ _ = w2 at hD2 hT2 ⊢
      walk_nrm
      refine opsN_value rfl rfl (v := .int .i64 x) (w' := w2) (by simp [go_sem]) ?_
      walk_nrm
      refine opsN_end ?_
      refine wpN_of_wp ?_
      have HJ := hid (pj_start HP.out hx)
      have HF2 := hid (HF.out.next hT2)
      have HT2 := hid (HT.out.trans hT2)
      have HD2 := hid hD2
      have HDE := hid hw2
      have hxk := HP.out.kok x (List.mem_of_getElem? hx)
      have hxb : -1048576 ≤ x ∧ x ≤ 1048576 := by unfold LitOk at hxk; omega
      have hr0 : rcvd wr bc = d := rcvd_dyn HD.out
      have HR0 := hid hr0
      clear hD2 hT2 hw2 hx hbuf hlen hsz hxk hr0 hc1 hc2 hc3 hc4
      have hwx : IntKind.i64.wrap (-x) = -x := IntWalk.i64_in _ (by omega)
      obtain ⟨-, -, hc2, -, -⟩ := HF2.out.now.cells
      obtain ⟨hes, hrows⟩ := HF2.out.now.wth
      obtain ⟨aw, cw, hval, hwl, hwn, hsw⟩ := hrows (-x)
      have hlook := im_lookup (P := Try.prog) Try.underlying71 Try.underlying3 (z := .slice none 0 0) (by kernel_rfl) hes (-x)
      rw [hval] at hlook
      have HVAL := hid hval
      have hLb : (withL C (-x)).length ≤ 4294967296 := by
        have h1 : (withL C (-x)).length ≤ C.length := by
          unfold withL
          rw [List.length_map]
          have := List.length_filter_le (fun i => decide (-x ∈ C.getD i [])) (List.range C.length)
          rw [List.length_range] at this
          exact this
        omega
      clear hes hrows hval hsw hwn hwl
      go_wp2_with fail
      clear hlook hc2
      go_loopw [25] (fun s25 wq => ∃ (m : Nat) (O' K' : List Int), s25 = .int .i64 m ∧ m ≤ (withL C (-x)).length ∧ Hid (Fix S wq b vc vo bw bk bc C (withL C) es) ∧ Hid (Dyn S wq vo bk bc (n + 1) O' K' (d + 1)) ∧ Hid (PJ n C A O' K' d x m) ∧ Hid (Touch S w wq)) (fun s25 _ => ((withL C (-x)).length - (intOf s25)).toNat)
      case atStart => exact ⟨0, O, K, rfl, Nat.zero_le _, HF2, HD2, HJ, HT2⟩
      case round =>
        obtain ⟨m, O', K', rfl, hm, HFq, HDq, HJq, HTq⟩ := hrel
        by_cases hml : m < (withL C (-x)).length
        · obtain ⟨i, hi⟩ : ∃ i, (withL C (-x))[m]? = some i := ⟨_, List.getElem?_eq_getElem hml⟩
          obtain ⟨j, c, o, hij, hc, ho, hcnt, -, -⟩ := pj_turn HJq.out hi
          subst hij
          obtain ⟨-, hc1, -, -, -⟩ := HFq.out.now.cells
          obtain ⟨hes, hrows⟩ := HFq.out.now.wth
          obtain ⟨aq, cq, hval, -, -, hsq⟩ := hrows (-x)
          rw [HVAL.out] at hval
          injection hval with hv1 hv2 hv3
          subst hv1
          subst hv3
          obtain ⟨ba, oa, i', rfl, hci, hi'⟩ := hsq.int hml
          have hii : i' = (j : Int) := by rw [hi] at hi'; exact (Option.some.inj hi').symm
          subst hii
          obtain ⟨g, cg, rfl, hco, hfo, hSg⟩ := ow_open HDq.out ho
          have hob := cntO_bounds c (K.take (d + 1))
          have hcb := HCL.out c (List.mem_of_getElem? hc)
          have hob2 : -1 ≤ o - 1 ∧ o - 1 ≤ 4294967296 := by
            have := cntO_bounds c (K'.take (d + 1))
            omega
          have hw1 : IntKind.i64.wrap (o - 1) = o - 1 := IntWalk.i64_in _ (by omega)
          have hwm : IntKind.i64.wrap ((m : Int) + 1) = (m : Int) + 1 := IntWalk.i64_in _ (by omega)
          have hjl : (j : Int) < O'.length := by have := (List.getElem?_eq_some_iff.1 ho).1; omega
          have hmi : (m : Int) < (withL C (-x)).length := by omega
          obtain ⟨hDs, hTs⟩ := dyn_store HDq.out j (o - 1)
          have HDs := hid hDs
          have HFs := hid (HFq.out.next hTs)
          have HTs := hid (HTq.out.trans hTs)
          have hKl := lits_le HJq.out.knod HJq.out.cons HJq.out.kok
          have hcells := (HFs.out.now.cells).2.1
          have HHI := hid hi
          have HHO := hid ho
          have HHC := hid hc
          clear hDs hTs hes hrows hsq hi hi' ho hc hcnt hob hcb
          by_cases h1 : o - 1 ≤ 1
          · have d1 : decide (o - 1 ≤ 1) = true := decide_eq_true h1
            cases hr : unitR K' c with
            | true =>
              have hJn := pj_unit HJq.out HHI.out rfl HHO.out HHC.out h1 hr
              have hln := lits_le hJn.knod hJn.cons hJn.kok
              have HJn := hid hJn
              have HR := hid hr
              clear hJn hr
              go_wp2_with fail
              refine (prop_unit S b vc _ bw bk bc (n + 1) (d + 1) C (withL C) es (O'.set j (o - 1)) K' c j true _ HHC.out HR.out (fun a ha => by have := HJq.out.cok c (List.mem_of_getElem? HHC.out) a ha; unfold LitOk at this; omega) (HCL.out c (List.mem_of_getElem? HHC.out)) HFs.out HDs.out (by omega)).mono ?_
              rintro e w5 ⟨rfl, h5, ht5⟩
              have HD5 := hid h5
              have HF5 := hid (HFs.out.next ht5)
              have HT5 := hid (HTs.out.trans ht5)
              clear h5 ht5
              go_wp2_with fail
              go_roundw
              case rel => exact ⟨m + 1, O'.set j (o - 1), unitK K' c, by simp, hml, HF5, HD5, HJn, HT5⟩
              case measure => simp [intOf]; omega
            | false =>
              have hbad := pj_bad HJq.out HHC.out hr
              have hul : unitK K' c = K' := by
                unfold unitK
                rw [List.find?_eq_none.2 (fun y hy => by have := List.any_eq_false.1 hr y hy; simpa using this)]
                rfl
              have HR := hid hr
              have HUL := hid hul
              have HB := hid hbad
              clear hr hul hbad
              go_wp2_with fail
              refine (prop_unit S b vc _ bw bk bc (n + 1) (d + 1) C (withL C) es (O'.set j (o - 1)) K' c j false _ HHC.out HR.out (fun a ha => by have := HJq.out.cok c (List.mem_of_getElem? HHC.out) a ha; unfold LitOk at this; omega) (HCL.out c (List.mem_of_getElem? HHC.out)) HFs.out HDs.out (by rw [HUL.out]; omega)).mono ?_
              rintro e w5 ⟨rfl, h5, ht5⟩
              have HT5 := hid (HTs.out.trans ht5)
              clear h5 ht5
              go_wp2_with fail
              go_ret
              exact ⟨HT5.out, .inr ⟨rfl, HB.out⟩⟩
          · have d1 : decide (o - 1 ≤ 1) = false := decide_eq_false h1
            have hJn := pj_open HJq.out HHI.out rfl HHO.out h1
            have HJn := hid hJn
            clear hJn
            go_wp2_with fail
            go_roundw
            case rel => exact ⟨m + 1, O'.set j (o - 1), K', by simp, hml, HFs, HDs, HJn, HTs⟩
            case measure => simp [intOf]; omega
        · have hJe := hid (pj_end HJq.out (by omega))
          have hKl := lits_le HJq.out.knod HJq.out.cons HJq.out.kok
          have hdl := HDq.out.le
          have hrq := hid (rcvd_dyn HDq.out)
          go_wp2_with fail
          refine ⟨⟨O', K', d + 1, HFq, HDq, hJe, HTq, ?_⟩, ?_⟩
          · repeat (apply Exists.intro)
            rfl
          · rw [hrq.out, HR0.out]
            omega
    · have hde2 : d = K.length := by omega
      have hd0 : decide ((0 : Int) < ((K.length - d : Nat) : Int)) = false := decide_eq_false (by omega)
      have hd0n : decide (0 < K.length - d) = false := decide_eq_false (by omega)
      have HCLO := hid (pi_closed HP.out (by omega))
      refine wpN_seq ?_
      go_wp2_with fail
      refine wpN_of_wp ?_
      go_wp2_with fail
      go_ret
      exact ⟨HT.out, .inl ⟨rfl, K, HCLO.out, HP.out.kok, HD.out.kn⟩⟩

end Go.Proofs.Ytfgaglgaofceiaa.Ord
