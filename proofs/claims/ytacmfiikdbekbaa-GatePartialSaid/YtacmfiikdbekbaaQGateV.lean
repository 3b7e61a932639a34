/- The contract of the reference's Decide of layer 15, where a set of literals holds that satisfies all clauses. -/
import Derived.Test.YtacmfiikdbekbaaQGateU

namespace Go.Proofs.Ytacmfiikdbekbaa.Ord
open Go.RowKit Go.Conc

attribute [local go_sem ↓] Go.wp_at_zero Go.wp_at_succ
attribute [local go_sem ↓ high] app_mark

theorem info_i8G : (Try.prog.info? 91).map (fun i => (i.zero, i.size, i.bytes)) = some (some (.int .i8 0), 1, 1) := by kernel_rfl

/-- What Decide leaves. -/
def decR (n : Nat) (G : List (List Int)) (A K : List Int) (w : World) (e : Ending) (w' : World) : Prop :=
  Below w.heap.size w w' ∧ ∃ (ak : Option Addr) (mk ck : Nat) (k : List Int), e = .returned (.tuple #[.slice ak mk ck, .bool true]) ∧ mk = n + 1 ∧ k.length = n + 1 ∧ kOk k ∧ SlV w' ak (i8s k) ∧ (∀ a, LitOk n a → kT k a → a ∈ K) ∧ ∀ a, Der G A a → kT k a

theorem nints_push (l : List Nat) (t : Nat) : nints (l ++ [t]) = nints l ++ [.int .i64 (t : Int)] := by simp [nints]

theorem nints_get {l : List Nat} {i t : Nat} (h : l[i]? = some t) : (nints l)[i]? = some (.int .i64 (t : Int)) := by simp [nints, h]

theorem slice_int_size (wx : World) : (sizeOf 3).run Try.prog wx = .ok 1 wx := by kernel_rfl

set_option maxRecDepth 100000 in
set_option maxHeartbeats 16000000 in
theorem ref15_Decide (w : World) (n : Nat) (acl : Option Addr) (G : List (List Int)) (mf cf : Nat) (aA : Option Addr) (A : List Int) (mA cA : Nat) (K : List Int) (hmf : mf = G.length) (hmA : mA = A.length) (hcA : aA = none → cA = 0) (hr : Rws w acl G) (hs : SlV w aA (ints A)) (hK : KOk n G K) (hA : ∀ a ∈ A, a ∈ K)
    (hn : n ≤ 100000) (hG : G.length ≤ 1000000) (hcl : ∀ c ∈ G, c.length ≤ 4096) (hAl : A.length ≤ 100000) (hT : G.flatten.length ≤ 10000000) :
    Calls Try.prog 32 #[.agg #[.int .i64 n, .slice acl mf cf], .slice aA mA cA] w (decR n G A K w) := by
  obtain ⟨i0, hi0, hz0, hz1, hz2⟩ := info_parts info_intG
  subst hmf
  subst hmA
  obtain ⟨n1, hn1⟩ : ∃ n1, n1 = n + 1 := ⟨_, rfl⟩
  obtain ⟨n2, hn2⟩ : ∃ n2, n2 = 2 * n + 2 := ⟨_, rfl⟩
  have hw1 : IntKind.i64.wrap ((n : Int) + 1) = (n1 : Int) := by rw [IntWalk.i64_in _ (by omega)]; omega
  have hw2 : IntKind.i64.wrap (2 * (n : Int)) = 2 * (n : Int) := IntWalk.i64_in _ (by omega)
  have hw3 : IntKind.i64.wrap (2 * (n : Int) + 2) = (n2 : Int) := by rw [IntWalk.i64_in _ (by omega)]; omega
  have hmk1 : ∀ w : World, (Instr.makeSlice 58 (.int .i64 (n1 : Int)) (.int .i64 (n1 : Int))).run Try.prog w = .ok (.slice (some ⟨w.heap.size, 0, none⟩) n1 n1) (w.alloc (.cells (madeCells #[.int .i8 0] n1) 91)) := fun w => run_make_row' _ _ _ 1 Try.underlying58 info_i8G rfl .i64 .i64 n1 (by omega) (by omega) w
  have hmk2 : ∀ w : World, (Instr.makeSlice 32 (.int .i64 (n2 : Int)) (.int .i64 (n2 : Int))).run Try.prog w = .ok (.slice (some ⟨w.heap.size, 0, none⟩) n2 n2) (w.alloc (.cells (madeCells #[.slice none 0 0] n2) 22)) := fun w => run_make_row' _ _ _ 24 Try.underlying32 info_intsG rfl .i64 .i64 n2 (by omega) (by omega) w
  have HN1 := hid hn1
  have HN2 := hid hn2
  have HR := hid hr
  have HS := hid hs
  have HK := hid hK
  have HA := hid hA
  have HCL := hid hcl
  have HT := hid hT
  have HCA := hid hcA
  clear hr hs hK hA hcl hT hcA hn1 hn2
  go_enter Try.func32, Try.ntmps32
  go_wp2_with fail
  clear hmk1 hmk2 hw1 hw2 hw3
  have hd0 : DSt w (((w.alloc (fbox n acl G.length cf)).alloc (.cells (madeCells #[.int .i8 0] n1) 91)).alloc (.cells (madeCells #[.slice none 0 0] n2) 22)) n acl G.length cf (List.replicate n1 0) (List.replicate n2 (.slice none 0 0)) (plF G 0) (.slice none 0 0) [] := by
    rw [made_list, made_list]
    refine ⟨below_al (below_al (box_below _ _) (by simp only [size_al]; omega) _) (by simp only [size_al]; omega) _, by simp only [size_al]; omega, ?_, ?_, ?_, by rw [HN2.out]; simp, fun j u hu => ?_, fun i j u v g hu hv hug hvg => ?_, World.ownsRow_nil _ _ _ _, fun j u g hu hug => ?_⟩
    · simp only [heap_al, Array.getElem?_push, Array.size_push]; rw [if_neg (by omega), if_neg (by omega), if_pos trivial]
    · simp only [heap_al, Array.getElem?_push, Array.size_push, i8s, List.map_replicate]; rw [if_neg (by omega), if_pos trivial]
    · simp only [heap_al, Array.getElem?_push, Array.size_push]; rw [if_pos trivial]
    · have := List.eq_of_mem_replicate (List.mem_of_getElem? hu)
      subst this
      exact World.ownsRow_nil _ _ _ _
    · have := List.eq_of_mem_replicate (List.mem_of_getElem? hu)
      subst this
      cases hug
    · have := List.eq_of_mem_replicate (List.mem_of_getElem? hu)
      subst this
      cases hug
  have HD0 := hid hd0
  have HI0 : Hid (DI n G [] K (List.replicate n1 0) [] (fun t => t < 0)) := hid ((by rw [HN1.out]; exact di_start : DI n G [] K (List.replicate n1 0) [] (fun _ => False)).more (fun t ht => by omega))
  clear hd0
  generalize (((w.alloc _).alloc _).alloc _) = w3 at HD0 ⊢
  obtain ⟨k0, hk0⟩ : ∃ k0 : List Int, List.replicate n1 0 = k0 := ⟨_, rfl⟩
  rw [hk0] at HD0 HI0
  clear hk0
  obtain ⟨T1, hT1⟩ : ∃ T1, T1 = G.flatten.length + 1 := ⟨_, rfl⟩
  have HT1 := hid hT1
  clear hT1
  go_loopw [8, 9] (fun s8 s9 wr => ∃ (i : Nat) (W : List Int) (us : List Value), s9 = .int .i64 i ∧ i ≤ G.length ∧ Hid (W.length ≤ i) ∧ Hid (DSt w wr n acl G.length cf k0 us (plF G i) s8 W) ∧ Hid (DI n G [] K k0 W (fun t => t < i))) (fun _ s9 _ => (G.length - (intOf s9)).toNat)
  case atStart => exact ⟨0, [], _, rfl, Nat.zero_le _, hid (Nat.le_refl _), HD0, HI0⟩
  case round =>
    clear HD0 HI0
    obtain ⟨i, W, us, rfl, hi, HWL, HD, HI⟩ := hrel
    obtain ⟨hc0, hc1⟩ := HD.out.cells
    obtain ⟨aw, cw, hvw⟩ := own_lenV' HD.out.wk
    obtain ⟨y, hy⟩ : ∃ y, W.length = y := ⟨_, rfl⟩
    rw [hy] at hvw HWL
    subst hvw
    have HY := hid hy
    clear hy
    by_cases hlt : i < G.length
    · have hlt2 : (i : Int) < G.length := by omega
      have hwi : IntKind.i64.wrap ((i : Int) + 1) = (i : Int) + 1 := IntWalk.i64_in _ (by omega)
      obtain ⟨c, hc⟩ : ∃ c, G[i]? = some c := ⟨_, List.getElem?_eq_getElem hlt⟩
      have hcm := List.mem_of_getElem? hc
      obtain ⟨b1, o1, u1, rfl, hu1, hsl⟩ := (HR.out.below HD.out.bel) i c hc
      obtain ⟨ac, cc, rfl, hcc, hcn, hsc⟩ := hsl
      have hc4 := HCL.out c hcm
      have hcpos : 0 < c.length := by obtain ⟨l, hl, -⟩ := HK.out.model c hcm; exact List.length_pos_of_mem hl
      have d0 : ((c.length : Int) == 0) = false := by rw [beq_eq_false_iff_ne]; omega
      have hsc0 := hsc
      have HC := hid hc
      have HSC : Hid (SlV w ac (ints c)) := hid (by
        obtain ⟨b1', o1', u1', e1, hu1', hsl'⟩ := HR.out i c hc
        injection e1 with e1
        injection e1 with e1 e2
        subst e1 e2
        have := below_keeps HD.out.bel _ _ hu1'
        rw [hu1] at this
        injection this with this
        obtain ⟨ac', cc', e3, -, -, h4⟩ := hsl'
        rw [e3] at this
        injection this with this _ _
        subst this
        exact h4)
      have HCOK := hid (fun x hx => HK.out.cls c hcm x hx)
      have HCM := hid hcm
      clear hc hcm hsc hsc0
      go_wp2_with fail
      have HD2 : Hid (DSt w wr n (some ⟨b1, o1, none⟩) G.length cf k0 us (fun a => plF G i a ++ plC i (c.take 0) a) (.slice aw y cw) W) := hid (by simpa [plC] using HD.out)
      clear d0 hc0 hc1
      have HUI := hid hu1
      clear hu1
      go_loopw [11] (fun s11 wq => ∃ (j : Nat) (us' : List Value), s11 = .int .i64 j ∧ j ≤ c.length ∧ Hid (DSt w wq n (some ⟨b1, o1, none⟩) G.length cf k0 us' (fun a => plF G i a ++ plC i (c.take j) a) (.slice aw y cw) W)) (fun s11 _ => (c.length - (intOf s11)).toNat)
      case atStart => exact ⟨0, us, rfl, Nat.zero_le _, HD2⟩
      case round =>
        clear HD2
        obtain ⟨j, us', rfl, hj, HD2⟩ := hrel
        by_cases hjl : j < c.length
        · have hjl2 : (j : Int) < c.length := by omega
          have hwj : IntKind.i64.wrap ((j : Int) + 1) = (j : Int) + 1 := IntWalk.i64_in _ (by omega)
          obtain ⟨b2, o2, x, rfl, hcx, hxj⟩ := (HSC.out.below HD2.out.bel).int hjl
          have hxk := HCOK.out x (List.mem_of_getElem? hxj)
          obtain ⟨p, hp⟩ : ∃ p, pl x = p := ⟨_, rfl⟩
          have hpl : p < n2 := by rw [HN2.out, ← hp]; exact pl_lt hxk
          have hpl2 : (p : Int) < n2 := by omega
          obtain ⟨ap, cp, hup, hcp, hop⟩ := HD2.out.row (j := p) (by have := HN2.out; omega)
          obtain ⟨q, hq⟩ : ∃ q, (plF G i p ++ plC i (c.take j) p).length = q := ⟨_, rfl⟩
          have HQL : Hid (q + 1 ≤ maxLen ∧ (q + 1) * 8 ≤ 140737488355328) := hid (by
            have h1 := plF_length (G := G) (i := i) hi p
            have h2 := plC_length i (c.take j) p
            have h3 := flat_step HC.out
            have h4 := HT.out
            have h5 : (c.take j).length ≤ c.length := by rw [List.length_take]; omega
            rw [List.length_append] at hq
            unfold maxLen
            omega)
          simp only [hq] at hup hcp hop
          have hcall : Calls Try.prog 55 #[.int .i64 x] wr fun e w' => e = .returned (.int .i64 (p : Nat)) ∧ wr = w' := by have := ref15_place wr x n hxk (by omega); rwa [hp] at this
          have HCALL := hid hcall
          obtain ⟨a6, c6, w6, hr6, ho6, hg6, ha6⟩ := appM_one (P := Try.prog) (wr.alloc (.cells #[.int .i64 (i : Int)] 3 (0, 0))) w.heap.size 22 22 3 i0 (.int .i64 0) 8 Try.underlying22 hi0 hz0 hz1 hz2 rfl (.slice ap q cp) q _ (hop.alloc (.cells #[.int .i64 (i : Int)] 3 (0, 0))) wr.heap.size (.int .i64 (i : Int)) (heap_alloc_new _ _) rfl HQL.out.1 HQL.out.2 (by simp only [size_al]; exact Nat.le_succ_of_le HD2.out.sz)
          have hpb6 := blk_app (box_below wr (.cells #[.int .i64 (i : Int)] 3 (0, 0))) hop hg6 HD2.out.pb (by decide)
          have hq6 : w6.cell? ⟨w.heap.size + 1 + 1, p, none⟩ = some (.slice ap q cp) := (fit_cell hpb6 p).trans hup
          have hf6 : w6.frozen? ⟨w.heap.size + 1 + 1, p, none⟩ = false := frozen_of_row _ _ _ _ _ hpb6
          have hcpa := fun o => below_keeps (box_below wr o) _ _ hcp
          have HN : Hid (DSt w (w6.setCell ⟨w.heap.size + 1 + 1, p, none⟩ (.slice a6 (q + 1) c6)) n (some ⟨b1, o1, none⟩) G.length cf k0 (us'.set p (.slice a6 (q + 1) c6)) (fun a => plF G i a ++ plC i (c.take (j + 1)) a) (.slice aw y cw) W) := hid (by
            have hrow : plF G i p ++ plC i (c.take (j + 1)) p = (plF G i p ++ plC i (c.take j) p) ++ [i] := by
              rw [plC_step hxj, if_pos hp, List.append_assoc]
            refine HD2.out.put hup (box_below wr _) ?_ hg6 ha6 (fun a ha => ?_)
            · show w6.ownsRow w.heap.size 3 1 (.slice a6 (q + 1) c6) (plF G i p ++ plC i (c.take (j + 1)) p).length (nints (plF G i p ++ plC i (c.take (j + 1)) p))
              rw [hrow, List.length_append, hq, nints_push]
              exact ho6
            · simp only [plC_step hxj]
              rw [if_neg (by rw [hp]; exact fun e => ha e.symm), List.append_nil])
          clear hop hup hq hxj hxk hp hpl hcall ho6 hg6 ha6 hpb6
          go_wp2_with fail
          refine HCALL.out.mono ?_
          rintro e w2 ⟨rfl, rfl⟩
          go_wp2_with fail
          go_roundw
          case rel => exact ⟨j + 1, _, by simp, hjl, HN⟩
          case measure => simp [intOf]; omega
        · have hj2 : j = c.length := by omega
          subst hj2
          have HD3 : Hid (DSt w wr n (some ⟨b1, o1, none⟩) G.length cf k0 us' (plF G (i + 1)) (.slice aw y cw) W) := hid (by
            have := HD2.out
            rw [List.take_length] at this
            have e : plF G (i + 1) = fun a => plF G i a ++ plC i c a := funext fun a => plF_step HC.out a
            rw [e]
            exact this)
          clear HD2
          obtain ⟨l, m, hO⟩ : ∃ l m, openV k0 c 0 0 = (l, m) := ⟨_, _, rfl⟩
          have hOR := open_or (fun x hx => (HCOK.out x hx).1) hO
          have hm0 := (open_ok HK.out HI.out.snd HCM.out hOR)
          have HLK := hid (HI.out.look HK.out HC.out hOR)
          have hcall := ref15_open wr n (some ⟨w.heap.size + 1, 0, none⟩) ac n1 n1 c.length cc k0 c l m HN1.out rfl HI.out.len HI.out.kok HCOK.out (by omega) (by omega) HD3.out.ks (HSC.out.below HD3.out.bel) hO
          have HCALL := hid hcall
          clear hcall
          have hm2 : m = 1 ∨ m ≠ 1 := by omega
          clear hO hOR hm0
          go_wp2_with fail
          refine HCALL.out.mono ?_
          rintro e w2 ⟨rfl, nd, rfl⟩
          have HD4 := hid (HD3.out.drewN nd)
          clear HD3 HCALL
          generalize wr.drewN nd = w4 at HD4 ⊢
          rcases hm2 with rfl | hm2
          · obtain ⟨a6, c6, w6, hr6, ho6, hg6, ha6⟩ := appM_one (P := Try.prog) (w4.alloc (.cells #[.int .i64 l] 3 (0, 0))) w.heap.size 22 22 3 i0 (.int .i64 0) 8 Try.underlying22 hi0 hz0 hz1 hz2 rfl (.slice aw y cw) y (ints W) ((by have := HD4.out.wk; rwa [HY.out] at this : w4.ownsRow w.heap.size 3 1 (.slice aw y cw) y (ints W)).alloc (.cells #[.int .i64 l] 3 (0, 0))) w4.heap.size (.int .i64 l) (heap_alloc_new _ _) rfl (by have := HWL.out; unfold maxLen; omega) (by have := HWL.out; omega) (by simp only [size_al]; exact Nat.le_succ_of_le HD4.out.sz)
            have HN : Hid (DSt w w6 n (some ⟨b1, o1, none⟩) G.length cf k0 us' (plF G (i + 1)) (.slice a6 (y + 1) c6) (W ++ [l])) := hid (HD4.out.push (box_below w4 _) (by rw [ints_append]; exact ho6) (by simp [HY.out]) hg6 ha6)
            have HLK2 : Hid (DI n G [] K k0 (W ++ [l]) (fun t => t < i + 1)) := hid (by
              have := HLK.out
              rw [if_pos rfl] at this
              exact this.more fun t ht => by omega)
            have HWL2 : Hid ((W ++ [l]).length ≤ i + 1) := hid (by have := HWL.out; have := HY.out; simp; omega)
            clear ho6 hg6 ha6
            go_wp2_with fail
            go_roundw
            case rel => exact ⟨i + 1, W ++ [l], us', by simp, hlt, HWL2, HN, HLK2⟩
            case measure => simp [intOf]; omega
          · have d1 : ((m : Int) == 1) = false := by rw [beq_eq_false_iff_ne]; omega
            have HLK2 : Hid (DI n G [] K k0 W (fun t => t < i + 1)) := hid (by
              have := HLK.out
              rw [if_neg hm2] at this
              exact this.more fun t ht => by omega)
            have HWL2 : Hid (W.length ≤ i + 1) := hid (by have := HWL.out; have := HY.out; omega)
            clear hm2
            go_wp2_with fail
            go_roundw
            case rel => exact ⟨i + 1, W, us', by simp, hlt, HWL2, HD4, HLK2⟩
            case measure => simp [intOf]; omega
    · have hi2 : i = G.length := by omega
      subst hi2
      have HI2 : Hid (DI n G A K k0 (W ++ A) (fun _ => True)) := hid (by
        have h := HI.out.assume (A := A) HA.out
        exact ⟨h.len, h.kok, h.snd, h.wrk, h.asm, fun t c _ hc => h.cls t c (List.getElem?_eq_some_iff.1 hc).1 hc⟩)
      obtain ⟨a6, c6, w6, hr6, ho6, hg6, ha6⟩ := appM_sl (P := Try.prog) wr w.heap.size 22 22 3 i0 (.int .i64 0) 8 Try.underlying22 hi0 hz0 hz1 hz2 rfl (.slice aw y cw) y (ints W) (by have := HD.out.wk; rwa [HY.out] at this) aA A.length cA (ints A) (HS.out.below HD.out.bel) (by simp) HCA.out ints_one (by have := HWL.out; unfold maxLen; omega) (by have := HWL.out; omega) HD.out.sz
      obtain ⟨yA, hyA⟩ : ∃ yA, y + A.length = yA := ⟨_, rfl⟩
      rw [hyA] at hr6 ho6 ha6
      have HDA : Hid (DSt w w6 n acl G.length cf k0 us (plF G G.length) (.slice a6 yA c6) (W ++ A)) := hid (HD.out.push (Below.refl _ _) (by rw [ints_append]; exact ho6) (by rw [List.length_append, HY.out, hyA]) hg6 ha6)
      obtain ⟨M0, hM0⟩ : ∃ M0, M0 = (n + 1) * T1 + (W ++ A).length := ⟨_, rfl⟩
      have HM0 : Hid (M0 ≤ 2000000000000) := hid (by
        have h1 := HWL.out
        have h2 := HY.out
        have h3 : (n + 1) * T1 ≤ 100001 * 10000001 := Nat.mul_le_mul (by omega) (by have := HT1.out; have := HT.out; omega)
        rw [hM0, List.length_append]
        omega)
      have HMS : Hid (opn k0 * T1 + (W ++ A).length ≤ M0) := hid (by
        have h1 : opn k0 ≤ n + 1 := by rw [← HI.out.len]; exact List.countP_le_length
        have h2 : opn k0 * T1 ≤ (n + 1) * T1 := Nat.mul_le_mul_right _ h1
        omega)
      clear ho6 hg6 ha6 hyA hM0 HD HI HWL HY
      go_wp2_with fail
      go_loopw [8] (fun s8 wr => ∃ (k W : List Int) (us : List Value), Hid (DSt w wr n acl G.length cf k us (plF G G.length) s8 W) ∧ Hid (DI n G A K k W (fun _ => True)) ∧ Hid (opn k * T1 + W.length ≤ M0)) (fun s8 wr => opnAt wr (w.heap.size + 1) * T1 + lenV s8)
      case atStart => exact ⟨k0, _, us, HDA, HI2, HMS⟩
      case round =>
        clear HDA HI2 HMS
        obtain ⟨k, W2, us2, HD, HI, HMS⟩ := hrel
        rcases List.eq_nil_or_concat W2 with hW | ⟨V, lit, hW⟩
        · subst hW
          obtain ⟨a8, c8, hv8⟩ := own_lenV' HD.out.wk
          have hv8 : u8 = .slice a8 0 c8 := hv8
          subst hv8
          have HFIN : Hid (Below w.heap.size w wr ∧ k.length = n + 1 ∧ kOk k ∧ SlV wr (some ⟨w.heap.size + 1, 0, none⟩) (i8s k) ∧ (∀ a, LitOk n a → kT k a → a ∈ K) ∧ ∀ a, Der G A a → kT k a) := hid ⟨HD.out.bel, HI.out.len, HI.out.kok, HD.out.ks, HI.out.snd, fun a ha => HI.out.fin ha⟩
          go_wp2_with fail
          go_ret2
          exact ⟨HFIN.out.1, _, _, _, k, rfl, HN1.out, HFIN.out.2.1, HFIN.out.2.2.1, HFIN.out.2.2.2.1, HFIN.out.2.2.2.2.1, HFIN.out.2.2.2.2.2⟩
        · rw [List.concat_eq_append] at hW
          subst hW
          obtain ⟨a8, c8, hv8⟩ := own_lenV' HD.out.wk
          obtain ⟨y, hy⟩ : ∃ y, (V ++ [lit]).length = y := ⟨_, rfl⟩
          rw [hy] at hv8
          subst hv8
          obtain ⟨vl, hvl⟩ : ∃ vl, V.length = vl := ⟨_, rfl⟩
          have hyv : y = vl + 1 := by rw [← hy, ← hvl]; simp
          have HYV := hid hyv
          have HVL := hid hvl
          have HML : Hid (vl + 1 ≤ M0 ∧ opn k * T1 + vl + 1 ≤ M0) := hid (by have := HMS.out; rw [hy] at this; omega)
          have hlit : lit ∈ K := HI.out.wrk lit (by simp)
          have hlok := HK.out.ok lit hlit
          have hy0 : decide ((0 : Int) < (y : Int)) = true := decide_eq_true (by omega)
          have hwy : IntKind.i64.wrap ((y : Int) - 1) = (vl : Int) := by have := HML.out.1; have := HM0.out; rw [IntWalk.i64_in _ (by omega)]; omega
          have hvy : (vl : Int) < (y : Int) := by omega
          have hvn : vl < y := by omega
          obtain ⟨b3, o3, x3, ha8, hcx, hx3⟩ := (own_slv HD.out.wk).int (k := vl) (by rw [hy]; exact hvn)
          have hx3' : x3 = lit := by
            rw [List.getElem?_append_right (by omega), hvl, Nat.sub_self] at hx3
            simpa using hx3.symm
          subst hx3'
          have hcut := HD.out.cut
          rw [hvl] at hcut
          have hcap := (own_cap HD.out.wk).2.1
          have hsl := slice_toG (P := Try.prog) (t := 22) (e := 3) (a := a8) (n := y) (c := c8) (k := (vl : Int)) (m := vl) rfl Try.underlying22 slice_int_size (by omega)
          have HDO := hid HD.out.opnAt
          have HCUT := hid hcut
          obtain ⟨v, hv⟩ : ∃ v, decide (kT k x3) = v := ⟨_, rfl⟩
          obtain ⟨q, hq⟩ : ∃ q, decide (k.getD x3.natAbs 0 = 0) = !q := ⟨!decide (k.getD x3.natAbs 0 = 0), by simp⟩
          have HCALL := hid (ref15_Is wr n (some ⟨w.heap.size + 1, 0, none⟩) n1 n1 k x3 q v HN1.out HI.out.len HI.out.kok hlok (by omega) HD.out.ks hq hv)
          have hvt : q = true → v = true := fun hqt => by
            rw [hqt] at hq
            have h1 : k.getD x3.natAbs 0 ≠ 0 := of_decide_eq_false hq
            rw [← hv]
            refine decide_eq_true ?_
            by_cases h2 : kT k x3
            · exact h2
            · by_cases h3 : kT k (-x3)
              · exact absurd (HI.out.snd (-x3) (by unfold LitOk at *; omega) h3) (HK.out.cons x3 hlit)
              · exact absurd ((is_known HI.out.kok hlok.1).2 ⟨h2, h3⟩) h1
          have HVT := hid hvt
          have HQ := hid hq
          have HLOK := hid hlok
          subst ha8
          clear HD hy hyv hx3 hcut hcap hv hvt hq hlit hlok hvl HMS
          go_wp2_with fail
          refine HCALL.out.mono ?_
          rintro e w2 ⟨rfl, nd, rfl⟩
          have HD4 := hid (HCUT.out.drewN nd)
          clear HCUT HCALL hcx
          generalize wr.drewN nd = w4 at HD4 ⊢
          cases q with
          | true =>
            have hv1 := HVT.out rfl
            subst hv1
            have HSK : Hid (DI n G A K k V (fun _ => True)) := hid (HI.out.skip (by
              by_cases h2 : kT k x3
              · exact h2
              · exfalso
                have h1 := HQ.out
                have h3 : k.getD x3.natAbs 0 ≠ 0 := of_decide_eq_false h1
                by_cases h4 : kT k (-x3)
                · exact (HK.out.cons x3 (HI.out.wrk x3 (by simp))) (HI.out.snd (-x3) (by have := HLOK.out; unfold LitOk at *; omega) h4)
                · exact h3 ((is_known HI.out.kok HLOK.out.1).2 ⟨h2, h4⟩)))
            have HMS2 : Hid (opn k * T1 + V.length ≤ M0) := hid (by rw [HVL.out]; have := HML.out; omega)
            go_wp2_with fail
            go_roundw
            case rel => exact ⟨k, V, us2, HD4, HSK, HMS2⟩
            case measure => rw [HD4.out.opnAt, HDO.out]; simp [lenV]; omega
          | false =>
            have h0 : k.getD x3.natAbs 0 = 0 := of_decide_eq_true HQ.out
            obtain ⟨j, hj⟩ : ∃ j, x3.natAbs = j := ⟨_, rfl⟩
            have hlk := HLOK.out
            unfold LitOk at hlk
            have hjn : j < n1 := by have := HN1.out; omega
            have hjn2 : (j : Int) < n1 := by omega
            have hmx : ∀ (ts : Array TypeId) (t : TypeId) (w : World), (Builtin.max_ ts t #[.int .i64 x3, .int .i64 (-x3)]).run Try.prog w = .ok (.int .i64 j) w := fun ts t w => by
              rw [run_max_int2]
              have : (if -x3 > x3 then -x3 else x3) = (j : Int) := by split <;> omega
              rw [this]
            have hwx : IntKind.i64.wrap (-x3) = -x3 := IntWalk.i64_in _ (by omega)
            obtain ⟨x0, hx0⟩ : ∃ x0, k[j]? = some x0 := ⟨_, List.getElem?_eq_getElem (by rw [HI.out.len]; have := HN1.out; omega)⟩
            have hck : w4.cell? ⟨w.heap.size + 1, j, none⟩ = some (.int .i8 x0) := (fit_cell HD4.out.kb j).trans (by simp [i8s, hx0])
            have hfk : w4.frozen? ⟨w.heap.size + 1, j, none⟩ = false := frozen_of_row _ _ _ _ _ HD4.out.kb
            obtain ⟨k', hk'⟩ : ∃ k', k.set j (sg x3) = k' := ⟨_, rfl⟩
            have hd5 := HD4.out.setK j (sg x3)
            have HTK : Hid (DI n G A K k' V (fun t => ∀ c, G[t]? = some c → -x3 ∉ c)) := hid (by have := HI.out.take HK.out HA.out h0; rwa [hj, hk'] at this)
            have HOP : Hid (opn k' + 1 = opn k) := hid (by have := opn_set HLOK.out HI.out.len h0; rwa [hj, hk'] at this)
            rw [hk'] at hd5
            have HD5 := hid hd5
            have hnl : LitOk n (-x3) := by unfold LitOk; omega
            obtain ⟨p, hp⟩ : ∃ p, pl (-x3) = p := ⟨_, rfl⟩
            have HPL : Hid (p < n2) := hid (by rw [HN2.out, ← hp]; exact pl_lt hnl)
            have HP := hid hp
            have hcall : ∀ wx, Calls Try.prog 55 #[.int .i64 (-x3)] wx fun e w' => e = .returned (.int .i64 (p : Nat)) ∧ wx = w' := fun wx => by have := ref15_place wx (-x3) n hnl (by omega); rwa [hp] at this
            have HCALL := hid hcall
            clear hd5 hnl hp hcall h0 hlk hj hx0 hk' HI
            go_wp2_with fail
            refine (ref15_sign w4 x3).mono ?_
            rintro e w5 ⟨rfl, rfl⟩
            go_wp2_with fail
            refine (HCALL.out _).mono ?_
            rintro e w6 ⟨rfl, rfl⟩
            generalize (w4.setCell _ _) = w5 at HD5 ⊢
            clear hck hfk hjn hjn2 hmx hwx hwy hvy hvn hsl hy0 HD4 HCALL
            have hpn : (p : Int) < n2 := by have := HPL.out; omega
            have hpn2 : p < n2 := HPL.out
            obtain ⟨ap, cp, hup, hcp, hop⟩ := HD5.out.row (j := p) (by have := HN2.out; omega)
            obtain ⟨qp, hqp⟩ : ∃ qp, (plF G G.length p).length = qp := ⟨_, rfl⟩
            rw [hqp] at hup hcp hop
            have HUP := hid hup
            have HQP := hid hqp
            have HQT : Hid (qp + 1 ≤ T1) := hid (by
              have h1 := plF_length (G := G) (Nat.le_refl _) p
              rw [List.take_length, hqp] at h1
              have := HT1.out
              omega)
            have hqb : qp ≤ 10000000 := by have := HQT.out; have := HT1.out; have := HT.out; omega
            clear hup hop hqp
            go_wp2_with fail
            clear hcp
            have HW0 : Hid (V.length ≤ vl + 0) := hid (by rw [HVL.out]; omega)
            have HTK0 : Hid (DI n G A K k' V (fun t => (∀ c, G[t]? = some c → -x3 ∉ c) ∨ t ∈ (plF G G.length p).take 0)) := hid (HTK.out.more fun t ht => by simpa using ht)
            go_loopw [8, 19] (fun s8 s19 wq => ∃ (i : Nat) (W' : List Int), s19 = .int .i64 i ∧ i ≤ qp ∧ Hid (W'.length ≤ vl + i) ∧ Hid (DSt w wq n acl G.length cf k' us2 (plF G G.length) s8 W') ∧ Hid (DI n G A K k' W' (fun t => (∀ c, G[t]? = some c → -x3 ∉ c) ∨ t ∈ (plF G G.length p).take i))) (fun _ s19 _ => (qp - (intOf s19)).toNat)
            case atStart => exact ⟨0, V, rfl, Nat.zero_le _, HW0, HD5, HTK0⟩
            case round =>
              clear HD5 HTK0 HTK HW0
              obtain ⟨i, W', rfl, hi, HWL, HD, HI⟩ := hrel
              obtain ⟨aw2, cw2, hvw⟩ := own_lenV' HD.out.wk
              obtain ⟨y2, hy2⟩ : ∃ y2, W'.length = y2 := ⟨_, rfl⟩
              rw [hy2] at hvw HWL
              subst hvw
              have HY2 := hid hy2
              clear hy2
              by_cases hlt : i < qp
              · have hlt2 : (i : Int) < qp := by omega
                have hwi : IntKind.i64.wrap ((i : Int) + 1) = (i : Int) + 1 := IntWalk.i64_in _ (by omega)
                obtain ⟨t, ht⟩ : ∃ t, (plF G G.length p)[i]? = some t := ⟨_, List.getElem?_eq_getElem (by rw [HQP.out]; exact hlt)⟩
                have htl : t < G.length := plF_ok.2 p t (List.mem_of_getElem? ht)
                have htl2 : (t : Int) < G.length := by omega
                obtain ⟨c, hc⟩ : ∃ c, G[t]? = some c := ⟨_, List.getElem?_eq_getElem htl⟩
                have hcm := List.mem_of_getElem? hc
                have hop := HD.out.rows p _ HUP.out
                obtain ⟨b4, o4, hap, hct⟩ := (own_slv hop) i (.int .i64 (t : Int)) (nints_get ht)
                obtain ⟨b1, o1, u1, hacl, hu1, hsl⟩ := (HR.out.below HD.out.bel) t c hc
                obtain ⟨ac, cc, rfl, hcc, hcn, hsc⟩ := hsl
                have hc4 := HCL.out c hcm
                have hcl1 : c.length ≤ 1048576 := by omega
                have hn5 : n ≤ 1048576 := by omega
                obtain ⟨hc0, hc1⟩ := HD.out.cells
                obtain ⟨l, m, hO⟩ : ∃ l m, openV k' c 0 0 = (l, m) := ⟨_, _, rfl⟩
                have hOR := open_or (fun x hx => (HK.out.cls c hcm x hx).1) hO
                have hm0 := (open_ok HK.out HI.out.snd hcm hOR)
                have HLK := hid (HI.out.look HK.out hc hOR)
                have HO := hid hO
                have HSC := hid hsc
                have HKS := hid HD.out.ks
                have HLEN := hid HI.out.len
                have HKOK := hid HI.out.kok
                have HCOK := hid (fun x hx => HK.out.cls c hcm x hx)
                have HTT := hid ht
                have HDN := hid (fun nd => HD.out.drewN nd)
                have d0 : ((m : Int) == 0) = false := by rw [beq_eq_false_iff_ne]; have := hm0.1; omega
                have hm2 : m = 1 ∨ m ≠ 1 := by omega
                subst hap
                subst hacl
                clear ht hc hcm hop hc4 hcc hcn hsc hO hOR hm0 HD
                go_wp2_with fail
                have HOC := hid (fun nd => ref15_open (wr.drewN nd) n (some ⟨w.heap.size + 1, 0, none⟩) ac n1 n1 c.length cc k' c l m HN1.out rfl HLEN.out HKOK.out HCOK.out hcl1 hn5 (HKS.out.drewN _) (HSC.out.drewN _) HO.out)
                go_quiet ((go_at_call 56; first | exact quiet_drewG2 (HOC.out _) | exact quiet_drewG (HOC.out _)))
                generalize hW : wr.drewN _ = w7
                have HD7 : Hid (DSt w w7 n (some ⟨b1, o1, none⟩) G.length cf k' us2 (plF G G.length) (.slice aw2 y2 cw2) W') := by rw [← hW]; exact HDN.out _
                clear hW hu1 hc0 hc1 hct
                rcases hm2 with rfl | hm2
                · obtain ⟨a6, c6, w6, hr6, ho6, hg6, ha6⟩ := appM_one (P := Try.prog) (w7.alloc (.cells #[.int .i64 l] 3 (0, 0))) w.heap.size 22 22 3 i0 (.int .i64 0) 8 Try.underlying22 hi0 hz0 hz1 hz2 rfl (.slice aw2 y2 cw2) y2 (ints W') ((by have := HD7.out.wk; rwa [HY2.out] at this : w7.ownsRow w.heap.size 3 1 (.slice aw2 y2 cw2) y2 (ints W')).alloc (.cells #[.int .i64 l] 3 (0, 0))) w7.heap.size (.int .i64 l) (heap_alloc_new _ _) rfl (by have := HWL.out; have := HML.out.1; have := HM0.out; unfold maxLen; omega) (by have := HWL.out; have := HML.out.1; have := HM0.out; omega) (by simp only [size_al]; exact Nat.le_succ_of_le HD7.out.sz)
                  have HN : Hid (DSt w w6 n (some ⟨b1, o1, none⟩) G.length cf k' us2 (plF G G.length) (.slice a6 (y2 + 1) c6) (W' ++ [l])) := hid (HD7.out.push (box_below w7 _) (by rw [ints_append]; exact ho6) (by simp [HY2.out]) hg6 ha6)
                  have HLK2 : Hid (DI n G A K k' (W' ++ [l]) (fun s => (∀ c, G[s]? = some c → -x3 ∉ c) ∨ s ∈ (plF G G.length p).take (i + 1))) := hid (by
                    have := HLK.out
                    rw [if_pos rfl] at this
                    refine this.more fun s hs => ?_
                    rcases hs with hs | hs
                    · exact .inl (.inl hs)
                    · rw [List.take_add_one, HTT.out] at hs
                      rcases List.mem_append.1 hs with hs | hs
                      · exact .inl (.inr hs)
                      · right; simpa using hs)
                  have HWL2 : Hid ((W' ++ [l]).length ≤ vl + (i + 1)) := hid (by have := HWL.out; have := HY2.out; simp; omega)
                  clear ho6 hg6 ha6
                  go_wp2_with fail
                  go_roundw
                  case rel => exact ⟨i + 1, W' ++ [l], by simp, hlt, HWL2, HN, HLK2⟩
                  case measure => simp [intOf]; omega
                · have d1 : ((m : Int) == 1) = false := by rw [beq_eq_false_iff_ne]; omega
                  have HLK2 : Hid (DI n G A K k' W' (fun s => (∀ c, G[s]? = some c → -x3 ∉ c) ∨ s ∈ (plF G G.length p).take (i + 1))) := hid (by
                    have := HLK.out
                    rw [if_neg hm2] at this
                    refine this.more fun s hs => ?_
                    rcases hs with hs | hs
                    · exact .inl (.inl hs)
                    · rw [List.take_add_one, HTT.out] at hs
                      rcases List.mem_append.1 hs with hs | hs
                      · exact .inl (.inr hs)
                      · right; simpa using hs)
                  have HWL2 : Hid (W'.length ≤ vl + (i + 1)) := hid (by have := HWL.out; have := HY2.out; omega)
                  clear hm2
                  go_wp2_with fail
                  go_roundw
                  case rel => exact ⟨i + 1, W', by simp, hlt, HWL2, HD7, HLK2⟩
                  case measure => simp [intOf]; omega
              · have hi2 : i = qp := by omega
                subst hi2
                have HE : Hid (DI n G A K k' W' (fun _ => True)) := hid (HI.out.done_all fun t c hc => by
                  by_cases hin : -x3 ∈ c
                  · right
                    have h1 := plF_ok (G := G)
                    have h2 := h1.1 t c (-x3) (List.getElem?_eq_some_iff.1 hc).1 hc hin
                    rw [HP.out] at h2
                    rw [List.take_of_length_le (by rw [HQP.out]; exact Nat.le_refl _)]
                    exact h2
                  · left
                    intro d hd
                    rw [hc] at hd
                    injection hd with hd
                    rw [← hd]
                    exact hin)
                have HMS2 : Hid (opn k' * T1 + W'.length ≤ M0 ∧ opn k' * T1 + y2 < opn k * T1 + y) := hid (by
                  have h1 := HOP.out
                  have h2 := HML.out
                  have h3 := HWL.out
                  have h4 := HQT.out
                  have h5 := HYV.out
                  have h6 := HY2.out
                  rw [← h1, Nat.succ_mul] at h2 ⊢
                  omega)
                go_wp2_with fail
                go_roundw
                case rel => exact ⟨k', W', us2, HD, HE, hid HMS2.out.1⟩
                case measure => rw [HD.out.opnAt, HDO.out]; simp only [lenV]; exact HMS2.out.2

end Go.Proofs.Ytacmfiikdbekbaa.Ord
