/- Plain facts for the laws of solve: renamed formulas, implied clauses. -/
import Derived.Defers
import Derived.Recover
import Derived.Test.YtfofabbnbmieoaaQ9
import Derived.Test.YtfofabbnbmieoaaQ5
import Derived.Test.YtfofabbnbmieoaaQ0
import Derived.Test.YtfofabbnbmieoaaQ2
import Derived.Test.YtfofabbnbmieoaaQ4

namespace Go.Proofs.Ytfofabbnbmieoaa.Ord

open Classical in
/-- The answer of Solve. -/
noncomputable def ansV (n : Nat) (F : List (List Int)) : Int := if HasM n F then 1 else 2

theorem ansV_sat {n : Nat} {F : List (List Int)} (h : HasM n F) : ansV n F = 1 := if_pos h
theorem ansV_un {n : Nat} {F : List (List Int)} (h : ¬ HasM n F) : ansV n F = 2 := if_neg h
theorem SolOk.ans {n : Nat} {F : List (List Int)} {a : Int} {m : List Bool} {P : List (List Int)} (h : SolOk n F a m P) (h0 : a ≠ 0) : a = ansV n F := by
  have hi := h.sat_iff h0
  by_cases q : HasM n F
  · rw [ansV_sat q]; exact hi.1.2 q
  · rw [ansV_un q]; exact hi.2.2 q

theorem HasM.mono {n : Nat} {F G : List (List Int)} (h : HasM n G) (hs : ∀ c ∈ F, c ∈ G) : HasM n F := by
  obtain ⟨m, hm, hh⟩ := h
  exact ⟨m, hm, fun c hc => hh c (hs c hc)⟩

/-! ### Renamed -/

section
variable {n s : Nat} {nt : Nat → Bool}

end

/-! ### Implied -/

/-- The clauses of D that F implies. -/
noncomputable def impL (F D : List (List Int)) : List (List Int) := D.filter fun d => upF F (negs d)

theorem imp_iff {n : Nat} {F D : List (List Int)} (hD : ClsOk n D) : HasM n F ↔ HasM n (F ++ impL F D) := by
  constructor
  · rintro ⟨m, hm, hh⟩
    refine ⟨m, hm, fun c hc => ?_⟩
    rcases List.mem_append.1 hc with q | q
    · exact hh c q
    · obtain ⟨h1, h2⟩ := List.mem_filter.1 q
      exact imp_holds hm hh (hD c h1) h2
  · exact fun h => h.mono fun c hc => List.mem_append_left _ hc

end Go.Proofs.Ytfofabbnbmieoaa.Ord

/- The walk of rup's look. -/
namespace Go.Proofs.Ytfofabbnbmieoaa.Ord
open Go.RowKit Go.Conc

attribute [local go_sem ↓] Go.wp_at_zero Go.wp_at_succ
attribute [local go_sem ↓ high] app_mark

/-- A literal of a clause, in memory. -/
theorem RM.lit {tag : Nat → RT} {B : Nat} {w0 w : World} {bx bw bk : Nat} {vc vt : Value} {dn : Nat} {C : List (List Int)} {us : List Value} {es : List (Int × Value)} {Wt : Int → List Nat} {K : List Int} (h : RM tag B w0 w bx bw bk vc vt dn C us es Wt K) {i : Nat} {d : List Int} (hc : C[i]? = some d) {g of n cap : Nat} (hu : us[i]? = some (.slice (some ⟨g, of, none⟩) n cap)) {j : Nat} {x : Int} (hx : d[j]? = some x) : w.cell? ⟨g, of + j, none⟩ = some (.int .i64 x) := by
  obtain ⟨g2, of2, cap2, cur, e1, e2, e3, e4, e5⟩ := h.cls i d hc
  rw [hu] at e1
  injection e1 with e1
  injection e1 with e1 e1n e1c
  injection e1 with e1
  injection e1 with e1a e1b
  subst e1a e1b
  have := e5 j x hx
  simp [World.cell?, e4, this]

theorem Touch.cell {S : Nat → Prop} {w w' : World} (h : Touch S w w') {p : Addr} {v : Value} (hp : w.cell? p = some v) (hn : ¬ S p.block) : w'.cell? p = some v := by
  rcases hh : w.heap[p.block]? with _ | obj
  · simp [World.cell?, hh] at hp
  · have := h.block _ (Array.getElem?_eq_some_iff.1 hh).1 hn
    simp only [World.cell?] at hp ⊢
    rw [this]
    exact hp

theorem Same.trans {c d e : List Int} (h : Same c d) (k : Same d e) : Same c e := ⟨k.1.trans h.1, k.2.1, fun x => (k.2.2 x).trans (h.2.2 x)⟩

set_option maxRecDepth 100000 in
set_option maxHeartbeats 8000000 in
theorem rup_look (tag : Nat → RT) (B : Nat) (w0 w : World) (bx bw bk : Nat) (vc vt : Value) (dn : Nat) (C : List (List Int)) (us : List Value) (es : List (Int × Value)) (Wt : Int → List Nat) (K : List Int) (i : Nat) (c : List Int) (a o : Int) (k : Nat)
    (h : RM tag B w0 w bx bw bk vc vt dn C us es Wt K) (hc : C[i]? = some c) (hl : 2 ≤ c.length) (hl2 : c.length ≤ 2199023255552) (hn : c.Nodup) (hb : ∀ x ∈ c, -1048576 ≤ x ∧ x ≤ 1048576)
    (hk : (k = 0 ∧ c[0]? = some a ∧ c[1]? = some o) ∨ (k = 1 ∧ c[0]? = some o ∧ c[1]? = some a)) (ha : -a ∈ K) (hKl : K.length ≤ 2199023255551) (hWl : ∀ b, (Wt b).length ≤ 2199023255552) :
    Calls Try.prog 106 #[.pointer (some ⟨bx, 0, none⟩), .int .i64 i, .int .i64 k] w (lookR tag B w0 w bx bw bk vc dn C us es Wt K i c a o) := by
  obtain ⟨Q, hQ⟩ : ∃ Q : Ending → World → Prop, lookR tag B w0 w bx bw bk vc dn C us es Wt K i c a o = Q := ⟨_, rfl⟩
  rw [hQ]
  obtain ⟨i0, hi0, hz0, hz1, hz2⟩ := info_parts info_int
  obtain ⟨q0, q1, q2, q3, q4⟩ := h.cells
  obtain ⟨ac, cc, rfl⟩ := own_lenV' h.clr
  have HQ : Hid (∀ e w', lookR tag B w0 w bx bw bk (.slice ac C.length cc) dn C us es Wt K i c a o e w' → Q e w') := hid (fun e w' h => by rw [← hQ]; exact h)
  clear hQ
  obtain ⟨g, of, cap, cur, e1, e2, e3, e4, e5⟩ := h.cls i c hc
  obtain ⟨bc, oc, rfl, hcu⟩ := own_slv h.clr i _ e1
  have hil : (i : Int) < C.length := by have := (List.getElem?_eq_some_iff.1 hc).1; omega
  have cel : ∀ (j : Nat) (x : Int), c[j]? = some x → w.cell? ⟨g, of + j, none⟩ = some (.int .i64 x) := fun j x hx => by
    have := e5 j x hx
    simp [World.cell?, e4, this]
  have hf : ∀ q, w.frozen? ⟨g, q, none⟩ = false := fun q => frozen_of_row _ _ _ _ _ e4
  obtain ⟨N, hN⟩ : ∃ N, c.length = N := ⟨_, rfl⟩
  have hN1 : (0 : Int) < N := by omega
  have hN2 : (1 : Int) < N := by omega
  have hi2 : (i : Int) < C.length := hil
  have c0 : ∀ x, c[0]? = some x → w.cell? ⟨g, of, none⟩ = some (.int .i64 x) := fun x hx => cel 0 x hx
  rw [hN] at hcu e1
  rcases hk with ⟨rfl, k0, k1⟩ | ⟨rfl, k0, k1⟩
  case' inl =>
    have p0 := c0 a k0
    have p1 := cel 1 o k1
    have f0 := hf of
    have f1 := hf (of + 1)
    obtain ⟨hsw, hst⟩ := h.swap hc (by rw [hN]; exact e1) e2 e3 e4 e5 k0 k1
    have hd0 : (swapL c 0 1)[0]? = some o := by rw [swapL_get (by omega) (by omega)]; simpa using k1
    have hd1 : (swapL c 0 1)[1]? = some a := by rw [swapL_get (by omega) (by omega)]; simpa using k0
    have hsm : Same c (swapL c 0 1) := same_swap (by omega) (by omega) hn
    obtain ⟨d, hd⟩ : ∃ d, swapL c 0 1 = d := ⟨_, rfl⟩
    rw [hd] at hsw hd0 hd1 hsm
    have HSW := hid (And.intro hsw (hst.mono fun q _ hq => (.inr (.inr (.inr (by rw [hq, e2]; exact ⟨nofun, nofun⟩))) : RS tag bx bw bk q)))
    have HC := hid hc
    have HE := hid (And.intro e1 e2)
    have HN := hid (And.intro hn (And.intro hb hN))
    have HD := hid (And.intro hd0 (And.intro hd1 hsm))
    clear hsw hst h hc cel hf e1 e2 e3 e4 e5 c0 hn hb k0 k1 hd hd0 hd1 hsm hl hN
    go_enter Try.func106, Try.ntmps106
    go_wp2_with fail
    go_cut [] (fun wx => Hid (RM tag B w0 wx bx bw bk (.slice (some ⟨bc, oc, none⟩) C.length cc) vt dn (C.set i d) us es Wt K) ∧ Hid (Touch (RS tag bx bw bk) w wx))
    case first =>
      go_region
      all_goals
        go_wp2_with fail
        go_meet
        case rel => exact ⟨HSW.out.1.grow (below_dr (Below.refl _ _) _) fun _ _ => rfl, HSW.out.2.drewN _⟩
    obtain ⟨HM, HT⟩ := hcut
    clear HSW p0 p1 f0 f1 q0 q1 q2 q3 q4 hcu
  case' inr =>
    obtain ⟨d, hd⟩ : ∃ d, c = d := ⟨_, rfl⟩
    have HC := hid hc
    have HM : Hid (RM tag B w0 w bx bw bk (.slice (some ⟨bc, oc, none⟩) C.length cc) vt dn (C.set i d) us es Wt K) := hid (by rw [← hd, list_set_self hc]; exact h)
    have HE := hid (And.intro e1 e2)
    have HN := hid (And.intro hn (And.intro hb hN))
    have hsm : Same c d := hd ▸ ⟨rfl, hn, fun _ => Iff.rfl⟩
    rw [hd] at k0 k1
    have HD := hid (And.intro k0 (And.intro k1 hsm))
    clear h hc cel hf e2 e3 e4 e5 c0 hn hb k0 k1 hsm hl hd hN
    go_enter Try.func106, Try.ntmps106
    go_wp2_with fail
    clear q0 q1 q2 q3 q4 hcu e1
    obtain ⟨wc, hwc⟩ : ∃ wc, w = wc := ⟨_, rfl⟩
    have HT : Hid (Touch (RS tag bx bw bk) w wc) := hid (by rw [hwc]; exact Touch.refl _ _)
    rw [hwc] at HM ⊢
    clear hwc
  all_goals
    obtain ⟨q0, q1, q2, q3, q4⟩ := HM.out.cells
    have hdl : d.length = N := by rw [HD.out.2.2.1]; exact HN.out.2.2
    have hbd : ∀ x ∈ d, -1048576 ≤ x ∧ x ≤ 1048576 := fun x hx => HN.out.2.1 x ((HD.out.2.2.2.2 x).1 hx)
    have hiC : (C.set i d)[i]? = some d := by rw [set_get HC.out, if_pos rfl]
    obtain ⟨g2, of2, cap2, cur, e1, e2, e3, e4, e5⟩ := HM.out.cls i d hiC
    rw [HE.out.1] at e1
    injection e1 with e1
    injection e1 with e1 e1n e1c
    injection e1 with e1
    injection e1 with e1a e1b
    subst e1a e1b
    have cel : ∀ (j : Nat) (x : Int), d[j]? = some x → wc.cell? ⟨g, of + j, none⟩ = some (.int .i64 x) := fun j x hx => by
      have := e5 j x hx
      simp [World.cell?, e4, this]
    have hf : ∀ q, wc.frozen? ⟨g, q, none⟩ = false := fun q => frozen_of_row _ _ _ _ _ e4
    have HDC := hid (And.intro hdl (And.intro hbd (And.intro cel (And.intro hf (And.intro e2 (And.intro e3 (And.intro e4 e5)))))))
    have hlk : ∀ x m, (Instr.lookup 100 (.map (some bk)) (.int .i64 x) false).run Try.prog (wc.drewN m) = .ok (.bool (decide (x ∈ K))) (wc.drewN m) := fun x m => by
      rw [im_lookup (P := Try.prog) Try.underlying100 Try.underlying3 (info_zero_bool _) (HM.out.kn.frame (w' := wc.drewN m) rfl) x, kes_get]
    have p0 : wc.cell? ⟨g, of, none⟩ = some (.int .i64 o) := cel 0 o HD.out.1
    clear e1n e1c e2 e3 e4 e5 hbd hiC hdl
    by_cases ho : o ∈ K
    · have hm := hlk o
      rw [decide_eq_true ho] at hm
      have HO := hid ho
      clear hlk cel hf ho
      go_wp2_with fail
      go_quiet (fail)
      go_wp2_with fail
      exact HQ.out _ _ ⟨tag, vt, d, es, Wt, K, HM.out.grow (below_dr (Below.refl _ _) _) (fun _ _ => rfl), fun _ _ => rfl, HT.out.drewN _, HD.out.2.2, fun _ _ => rfl, .known HO.out ⟨HD.out.1, HD.out.2.1⟩ rfl rfl⟩
    · have hm := hlk o
      rw [decide_eq_false ho] at hm
      have HO := hid ho
      have HLK := hid hlk
      have HW := hid (And.intro hKl (And.intro hWl ha))
      have hM2 : N ≤ 2199023255552 := by have := HN.out.2.2; omega
      clear hlk cel hf ho hKl hWl ha hl2
      go_wp2_with fail
      go_quiet (fail)
      clear hm p0
      go_wp2_with fail
      go_loopw [8] (fun s8 wr => ∃ j nd : Nat, s8 = .int .i64 j ∧ 2 ≤ j ∧ j ≤ N ∧ wr = wc.drewN nd ∧ Hid (∀ (t : Nat) (x : Int), 2 ≤ t → t < j → d[t]? = some x → -x ∈ K)) (fun s8 _ => (N - (intOf s8)).toNat)
      case atStart => exact ⟨2, _, rfl, by omega, by omega, rfl, hid fun t x h1 h2 => by omega⟩
      case round =>
        obtain ⟨j, nd, rfl, hj2, hjM, rfl, HJ⟩ := hrel
        by_cases hlt : j < N
        · have hlt2 : (j : Int) < N := by omega
          obtain ⟨x, hxj⟩ : ∃ x, d[j]? = some x := ⟨_, List.getElem?_eq_getElem (by rw [HDC.out.1]; exact hlt)⟩
          have pj := HDC.out.2.2.1 j x hxj
          have hxb := HDC.out.2.1 x (List.mem_of_getElem? hxj)
          have hwx : IntKind.i64.wrap (-x) = -x := IntWalk.i64_in _ (by omega)
          have hwj : IntKind.i64.wrap ((j : Int) + 1) = (j : Int) + 1 := IntWalk.i64_in _ (by omega)
          have HXJ := hid hxj
          by_cases hx : -x ∈ K
          · have hm := HLK.out (-x)
            rw [decide_eq_true hx] at hm
            have HX := hid hx
            clear hxj hx hxb
            go_wp2_with fail
            go_quiet (fail)
            go_wp2_with fail
            go_roundw
            case rel => exact ⟨j + 1, _, by simp, by omega, by omega, rfl, hid fun t y h1 h2 h3 => by
              by_cases ht : t < j
              · exact HJ.out t y h1 ht h3
              · have : t = j := by omega
                subst this
                rw [HXJ.out] at h3
                injection h3 with h3
                rw [← h3]; exact HX.out⟩
            case measure => simp [intOf]; omega
          · have hm := HLK.out (-x)
            rw [decide_eq_false hx] at hm
            have HX := hid hx
            have HXB := hid hxb
            clear hxj hx hxb
            go_wp2_with fail
            go_quiet (fail)
            have hBd : Below wc.heap.size wc ((wc.drewN nd).drewN nq) := below_dr (below_dr (Below.refl _ _) _) _
            have hMd := HM.out.grow hBd (tag' := tag) (fun _ _ => rfl)
            have hTd : Touch (RS tag bx bw bk) w ((wc.drewN nd).drewN nq) := (HT.out.drewN _).drewN _
            have hgd : ((wc.drewN nd).drewN nq).heap[g]? = some (.cells cur 3 (0, 0)) := HDC.out.2.2.2.2.2.2.1
            have HE5 := hid (And.intro HDC.out.1 (And.intro HDC.out.2.2.2.2.2.1 HDC.out.2.2.2.2.2.2.2))
            clear q0 q1 q2 q3 q4 HM HT HLK HDC pj hm hBd
            generalize ((wc.drewN nd).drewN nq) = wd at hMd hTd hgd ⊢
            obtain ⟨q0, q1, q2, q3, q4⟩ := hMd.cells
            have hiC : (C.set i d)[i]? = some d := by rw [set_get HC.out, if_pos rfl]
            have p1 := hMd.lit hiC HE.out.1 HD.out.2.1
            have pj := hMd.lit hiC HE.out.1 HXJ.out
            have f1 : wd.frozen? ⟨g, of + 1, none⟩ = false := frozen_of_row _ _ _ _ _ hgd
            have fj : wd.frozen? ⟨g, of + j, none⟩ = false := frozen_of_row _ _ _ _ _ hgd
            obtain ⟨hsw, hst⟩ := hMd.swap hiC (by rw [HE5.out.1]; exact HE.out.1) HE.out.2 HE5.out.2.1 hgd HE5.out.2.2 HD.out.2.1 HXJ.out
            rw [List.set_set] at hsw
            have hjd : j < d.length := by rw [HE5.out.1]; exact hlt
            have h0 : (swapL d 1 j)[0]? = some o := by rw [swapL_get (by omega) hjd, if_neg (by omega), if_neg (by omega)]; exact HD.out.1
            have h1 : (swapL d 1 j)[1]? = some x := by rw [swapL_get (by omega) hjd, if_neg (by omega), if_pos rfl]; exact HXJ.out
            have hs2 : Same c (swapL d 1 j) := HD.out.2.2.trans (same_swap (by omega) hjd HD.out.2.2.2.1)
            obtain ⟨d2, hd2⟩ : ∃ d2, swapL d 1 j = d2 := ⟨_, rfl⟩
            rw [hd2] at hsw h0 h1 hs2
            have HSW := hid (And.intro hsw (hTd.trans (hst.mono fun q _ hq => (.inr (.inr (.inr (by rw [hq, HE.out.2]; exact ⟨nofun, nofun⟩))) : RS tag bx bw bk q))))
            have HD2 := hid (And.intro h0 (And.intro h1 hs2))
            clear hMd hTd hgd hiC hsw hst hjd h0 h1 hs2 hd2
            go_wp2_with fail
            go_cut [] (fun wx => Hid (RM tag B w0 wx bx bw bk (.slice (some ⟨bc, oc, none⟩) C.length cc) vt dn (C.set i d2) us es Wt K) ∧ Hid (Touch (RS tag bx bw bk) w wx))
            case first =>
              go_region
              all_goals
                go_wp2_with fail
                go_meet
                case rel => exact ⟨HSW.out.1.grow (below_dr (Below.refl _ _) _) fun _ _ => rfl, HSW.out.2.drewN _⟩
            case rest =>
              obtain ⟨HM2, HT2⟩ := hcut
              clear HSW p1 pj f1 fj q0 q1 q2 q3 q4
              obtain ⟨q0, q1, -, -, -⟩ := HM2.out.cells
              have hiC : (C.set i d2)[i]? = some d2 := by rw [set_get HC.out, if_pos rfl]
              have pz := HM2.out.lit hiC HE.out.1 HD2.out.2.1
              obtain ⟨av, cv, hval, hwv2, hwv3⟩ := HM2.out.wr x
              have hwv : WV tag B wc x (.slice av (Wt x).length cv) (Wt x) := ⟨av, cv, rfl, hwv2, by rw [hval] at hwv3; exact hwv3⟩
              have hlG : ∀ y : World, IM y bw es → (Instr.lookup 99 (.map (some bw)) (.int .i64 x) false).run Try.prog y = .ok (.slice av (Wt x).length cv) y := fun y hy => by
                rw [im_lookup (P := Try.prog) Try.underlying99 Try.underlying3 (z := .slice none 0 0) (by kernel_rfl) hy x]
                exact congrArg (fun v => Result.ok v y) hval
              have hl0 := fun m => hlG (wc.drewN m) (HM2.out.wi.frame rfl)
              have hl1 := hlG wc.drew (HM2.out.wi.frame rfl)
              have hl2 := fun o => hlG (wc.alloc o) (HM2.out.wi.frame (Below.heap_alloc _ _ _ HM2.out.wi.lt))
              have hl3 := fun o => hlG (wc.alloc o).drew (HM2.out.wi.frame (Below.heap_alloc _ _ _ HM2.out.wi.lt))
              have hl4 := fun o m => hlG ((wc.alloc o).drewN m) (HM2.out.wi.frame (Below.heap_alloc _ _ _ HM2.out.wi.lt))
              have hle := HM2.out.le
              have HNT : Hid ((¬ (tag bx = .wth x ∧ B ≤ bx ∧ ∃ cur : Array Value, wc.heap[bx]? = some (.cells cur 3 (0, 0)))) ∧ (¬ (tag g = .wth x ∧ B ≤ g ∧ ∃ cur : Array Value, wc.heap[g]? = some (.cells cur 3 (0, 0)))) ∧ ¬ (tag bw = .wth x ∧ B ≤ bw ∧ ∃ cur : Array Value, wc.heap[bw]? = some (.cells cur 3 (0, 0)))) := hid ⟨fun ⟨_, _, cu, hc⟩ => (HM2.out.intb hc).1 rfl, (fun ⟨h, _⟩ => by rw [HE.out.2] at h; cases h), fun ⟨_, _, cu, hc⟩ => (HM2.out.intb hc).2.1 rfl⟩
              have HGW : Hid (g ≠ bw ∧ bx ≠ bw) := hid ⟨fun e => by
                obtain ⟨cu, hc⟩ : ∃ cu : Array Value, wc.heap[g]? = some (.cells cu 3 (0, 0)) := by
                  obtain ⟨g2, of2, cap2, cu, e1, e2, e3, e4, e5⟩ := HM2.out.cls i d2 (by rw [set_get HC.out, if_pos rfl])
                  rw [HE.out.1] at e1
                  injection e1 with e1
                  injection e1 with e1 e1n e1c
                  injection e1 with e1
                  injection e1 with e1a e1b
                  exact ⟨cu, by rw [e1a]; exact e4⟩
                exact (HM2.out.intb hc).2.1 e, (HM2.out.apart).1⟩
              have hWx := HW.out.2.1 x
              obtain ⟨R, hR⟩ : ∃ R, (Wt x).length = R := ⟨_, rfl⟩
              have HR := hid hR
              have HWV := hid hwv
              rw [hR] at hl0 hl1 hl2 hl3 hl4 hWx
              clear hlG hwv hval hwv2 hwv3 hiC hR
              go_wp2_with fail
              go_region_held3 (fun y => y.cell? ⟨bx, 1, none⟩ = some (.map (some bw)) ∧ y.cell? ⟨g, of + 1, none⟩ = some (.int .i64 x)) (first | exact ⟨‹_›, ‹_›⟩ | go_keep)
                ((refine step_append_wt (tag := tag) (B := B) (w := wc) rfl _ _ 22 rfl i0 (.int .i64 0) 8 Try.underlying22 hi0 hz0 hz1 hz2 rfl rfl (v := .slice av R cv) HR.out (by rfl) (by rw [← HR.out]; exact HWV.out) (by first | exact box_below _ _ | exact (box_below _ _).drew) (by exact hle) [i] _ 1 1 rfl (by decide) (by rfl) (cells_one (by first | exact heap_alloc_new _ _)) (by omega) ?_; intro a8 c8 w8 h8 hT8 ho8; have hb8 := hT8.cell q1 HNT.out.1; have hg8 := hT8.cell pz HNT.out.2.1; obtain ⟨w3, hup, him, ht3, hz3⟩ := im_update (P := Try.prog) Try.underlying99 Try.underlying3 (HM2.out.wi.frame (hT8.block bw HM2.out.wi.lt HNT.out.2.2)) x (.slice a8 (R + 1) c8); have hb9 := ht3.cell hb8 HGW.out.2; have hg9 := ht3.cell hg8 HGW.out.1; have H8 := hid h8; have HT8 := hid hT8; have HO8 := hid ho8; have HIM := hid him; have HT3 := hid ht3; clear h8 hT8 ho8 him ht3 hz3))
              all_goals
                go_wp2_with fail
                obtain ⟨hM3, hT3⟩ := HM2.out.wth HT8.out (by rw [HR.out]; exact H8.out) (fun k hk hl => (HO8.out k hk hl).1) HIM.out HT3.out
                have hsz := HT2.out.size
                refine HQ.out _ _ ⟨_, vt, d2, _, _, K, hM3, fun q hq => if_pos (by omega), HT2.out.trans hT3, HD2.out.2.2, fun b hb => ?_, .moved x HO.out ⟨HD2.out.1, HD2.out.2.1⟩ ⟨(HD.out.2.2.2.2 x).1 (List.mem_of_getElem? HXJ.out), fun e => ?_, fun e => ?_, HX.out⟩ ⟨if_pos rfl, fun b hb => if_neg hb⟩ rfl⟩
                · by_cases hbx : b = x
                  · rw [if_pos hbx] at hb
                    have := congrArg List.length hb
                    rw [hbx] at this
                    simp at this
                  · rw [aget_aput_other hbx]
                · have := nodup_get HD.out.2.2.2.1 HXJ.out (by rw [e]; exact HD.out.2.1)
                  omega
                · have := nodup_get HD.out.2.2.2.1 HXJ.out (by rw [e]; exact HD.out.1)
                  omega
        · have hlt2 : ¬ (j : Int) < N := by omega
          have hje : j = N := by omega
          subst hje
          have hM2 := HM.out.grow (below_dr (Below.refl _ wc) nd) (tag' := tag) (fun _ _ => rfl)
          have hT2 : Touch (RS tag bx bw bk) w (wc.drewN nd) := HT.out.drewN _
          have hfa : ∀ y ∈ c, y ≠ o → -y ∈ K := fun y hy hyo => by
            obtain ⟨t, ht⟩ := List.mem_iff_getElem?.1 ((HD.out.2.2.2.2 y).2 hy)
            have htl := (List.getElem?_eq_some_iff.1 ht).1
            rw [HDC.out.1] at htl
            match t, ht, htl with
            | 0, ht, _ => rw [HD.out.1] at ht; injection ht with ht; exact absurd ht.symm hyo
            | 1, ht, _ => rw [HD.out.2.1] at ht; injection ht with ht; rw [← ht]; exact HW.out.2.2
            | t + 2, ht, htl => exact HJ.out (t + 2) y (by omega) htl ht
          have hoc : o ∈ d := List.mem_of_getElem? HD.out.1
          have hbo := HDC.out.2.1 o hoc
          have HSET := hid (rup_set tag B w0 (wc.drewN nd) bx bw bk _ vt dn _ us es Wt K o hM2 hbo (by have := HW.out.1; omega))
          have HFA := hid hfa
          have HT9 := hid hT2
          have p0 : (wc.drewN nd).cell? ⟨g, of, none⟩ = some (.int .i64 o) := HDC.out.2.2.1 0 o HD.out.1
          have HM9 := hid hM2
          clear hM2 hT2 hfa hoc hbo
          go_wp2_with fail
          by_cases hs : -o ∈ K
          · refine HSET.out.mono ?_
            rintro e w2 ⟨h1, -⟩
            obtain ⟨rfl, rfl⟩ := h1 hs
            have HS := hid hs
            clear h1 hs
            go_wp2_with fail
            exact ⟨rfl, HQ.out _ _ ⟨tag, vt, d, es, Wt, K, HM9.out, fun _ _ => rfl, HT9.out, HD.out.2.2, fun _ _ => rfl, .fail HS.out HFA.out ⟨HD.out.1, HD.out.2.1⟩ rfl rfl⟩⟩
          · refine HSET.out.mono ?_
            rintro e w2 ⟨-, h1⟩
            obtain ⟨rfl, tag', vt', hR, htg, hT⟩ := h1 hs
            rw [setK_new hs HO.out] at hR
            have HR := hid hR
            have hsz := HT9.out.size
            have HTG := hid fun q (hq : q < w.heap.size) => htg q (by omega)
            have HT3 := hid (HT9.out.trans (hT.mono fun q _ hq => (by
              rcases hq with e | e | e
              · exact .inl e
              · exact .inr (.inr (.inl e))
              · exact .inr (.inr (.inr (by rw [HM.out.trt q e]; exact ⟨nofun, nofun⟩))) : RS tag bx bw bk q)))
            have HS := hid hs
            clear h1 hs hR htg hT hsz
            go_wp2_with fail
            exact HQ.out _ _ ⟨tag', vt', d, es, Wt, K ++ [o], HR.out, HTG.out, HT3.out, HD.out.2.2, fun _ _ => rfl, .set ⟨HO.out, HS.out⟩ HFA.out ⟨HD.out.1, HD.out.2.1⟩ rfl rfl⟩

end Go.Proofs.Ytfofabbnbmieoaa.Ord

/- A watch list put in the place of another. -/
namespace Go.Proofs.Ytfofabbnbmieoaa.Ord
open Go.RowKit Go.Conc

/-- The blocks that run writes. -/
def ST (tag : Nat → RT) (bx bw bk : Nat) (k : Nat) : Prop := k = bx ∨ k = bw ∨ k = bk ∨ tag k ≠ .oth

theorem RS.st {tag : Nat → RT} {bx bw bk k : Nat} (h : RS tag bx bw bk k) : ST tag bx bw bk k := by
  rcases h with h | h | h | h
  · exact .inl h
  · exact .inr (.inl h)
  · exact .inr (.inr (.inl h))
  · exact .inr (.inr (.inr h.1))

/-- What others hold stays others'. -/
def TG (tag tag' : Nat → RT) (w : World) : Prop := ∀ g, g < w.heap.size → tag g = .oth → tag' g = .oth

theorem TG.refl (tag : Nat → RT) (w : World) : TG tag tag w := fun _ _ h => h
theorem TG.of_eq {tag tag' : Nat → RT} {w : World} (h : ∀ g, g < w.heap.size → tag' g = tag g) : TG tag tag' w := fun g hg ht => (h g hg).trans ht
theorem TG.trans {t1 t2 t3 : Nat → RT} {w w' : World} (h : TG t1 t2 w) (k : TG t2 t3 w') (hs : w.heap.size ≤ w'.heap.size) : TG t1 t3 w := fun g hg ht => k g (Nat.lt_of_lt_of_le hg hs) (h g hg ht)

theorem ST.back {t1 t2 : Nat → RT} {bx bw bk k : Nat} {w : World} (h : TG t1 t2 w) (hk : k < w.heap.size) (hs : ST t2 bx bw bk k) : ST t1 bx bw bk k := by
  rcases hs with e | e | e | e
  · exact .inl e
  · exact .inr (.inl e)
  · exact .inr (.inr (.inl e))
  · exact .inr (.inr (.inr fun q => e (h k hk q)))

theorem Touch.st {t1 t2 : Nat → RT} {bx bw bk : Nat} {a b c : World} (h : Touch (ST t1 bx bw bk) a b) (ht : TG t1 t2 a) (k : Touch (ST t2 bx bw bk) b c) : Touch (ST t1 bx bw bk) a c := h.trans' k fun _ hi hs => hs.back ht hi

open Classical in
/-- The tags behind such a put. -/
noncomputable def tagR (tag : Nat → RT) (w : World) (a : Int) (v : Value) : Nat → RT := fun g => if v.ownBlock = some g ∧ (tag g = .kep ∨ w.heap.size ≤ g) then .wth a else tag g

theorem tagR_eq {tag : Nat → RT} {w : World} {a : Int} {v : Value} {g : Nat} (h : g < w.heap.size) (hn : tag g ≠ .kep) : tagR tag w a v g = tag g := by
  unfold tagR
  rw [if_neg]
  rintro ⟨-, q | q⟩
  · exact hn q
  · omega

theorem tagR_tg (tag : Nat → RT) (w : World) (a : Int) (v : Value) : TG tag (tagR tag w a v) w := fun g hg ht => (tagR_eq hg (by rw [ht]; nofun)).trans ht

section
variable {tag : Nat → RT} {B : Nat} {w0 w : World} {bx bw bk : Nat} {vc vt : Value} {dn : Nat} {C : List (List Int)} {us : List Value} {es : List (Int × Value)} {Wt : Int → List Nat} {K : List Int}

/-- The watch list of a becomes L, which lay in blocks that were kept. -/
theorem RM.rew (h : RM tag B w0 w bx bw bk vc vt dn C us es Wt K) {a : Int} {w2 w3 : World} {v' : Value} {L : List Nat} (happ : Touch (fun k => tag k = .kep ∧ B ≤ k ∧ ∃ cur : Array Value, w.heap[k]? = some (.cells cur 3 (0, 0))) w w2)
    (hv : ∃ ad cap, v' = .slice ad L.length cap ∧ (ad = none → cap = 0) ∧ ((cap = 0 ∧ L = []) ∨ (w2.ownsRow B 3 1 v' L.length (nnts L) ∧ ∀ k, v'.ownBlock = some k → k < w.heap.size → tag k = .kep)))
    (him : IM w3 bw (aput es a v')) (ht3 : Touch (fun k => k = bw) w2 w3) :
    RM (tagR tag w a v') B w0 w3 bx bw bk vc vt dn C us (aput es a v') (effW Wt a L) K ∧ Touch (ST tag bx bw bk) w w3 := by
  have hkp : ∀ k, k < w.heap.size → k ≠ bw → (tag k ≠ .kep ∨ k < B ∨ ∀ cur : Array Value, w.heap[k]? ≠ some (.cells cur 3 (0, 0))) → w3.heap[k]? = w.heap[k]? := fun k hk hn hh => by
    refine (ht3.block k (Nat.lt_of_lt_of_le hk happ.size) hn).trans (happ.block k hk fun ⟨q1, q3, cur, q2⟩ => ?_)
    rcases hh with q | q | q
    · exact q q1
    · omega
    · exact q cur q2
  obtain ⟨a1, a2, a3, a4, a5, a6, a7, a8, a9⟩ := h.apart
  have hT : Touch (fun k => k = bw ∨ (tag k = .kep ∧ B ≤ k ∧ ∃ cur : Array Value, w.heap[k]? = some (.cells cur 3 (0, 0)))) w w3 :=
    (happ.mono fun k _ hk => .inr hk).trans' ht3 (fun k _ hk => .inl hk)
  have hBlow : Below B w0 w3 := h.bel.trans ⟨hT.os, hT.tape, hT.output, hT.size, fun k hk => hkp k (by have := h.le; omega) (by have := h.bwB; omega) (.inr (.inl hk))⟩
  have hown : ∀ {e n : Nat} {v : Value} {xs : List Value}, w.ownsRow B e 1 v n xs → e ≠ 3 → v.ownBlock ≠ some bw → w3.ownsRow B e 1 v n xs := fun ho he hn => own_frame0 ho fun g hg => hkp g (ho.lt g hg).2 (fun q => hn (q ▸ hg)) (.inr (.inr fun cur hc => by
    obtain ⟨c2, hc2⟩ := own_cells ho hg
    rw [hc] at hc2
    injection hc2 with hc2
    injection hc2 with _ hc2
    exact he hc2.symm))
  have hsz := hT.size
  refine ⟨⟨hBlow, Nat.le_trans h.le hsz, h.bxB, h.bwB, h.bkB, h.ne, (hkp bx (Array.getElem?_eq_some_iff.1 h.blk).1 a1 (.inr (.inr fun cur hc => ?_))).trans h.blk, hown h.clr (by decide) a4, fun g hg => (tagR_eq (h.clr.lt g hg).2 (by rw [h.clt g hg]; nofun)).trans (h.clt g hg), fun t c hc => ?_, own_frame0 h.tr fun g hg => hkp g (h.tr.lt g hg).2 (fun q => a7 (q ▸ hg)) (.inl (by rw [h.trt g hg]; nofun)), fun g hg => (tagR_eq (h.tr.lt g hg).2 (by rw [h.trt g hg]; nofun)).trans (h.trt g hg), him, fun b => ?_, h.kn.frame (hkp bk h.kn.lt (fun e => h.ne e.symm) (.inr (.inr fun cur hc => ?_)))⟩, ?_⟩
  · rw [h.blk] at hc; simp at hc
  · obtain ⟨g, o, cap, cur, e1, e2, e3, e4, e5⟩ := h.cls t c hc
    have hl := (Array.getElem?_eq_some_iff.1 e4).1
    exact ⟨g, o, cap, cur, e1, (tagR_eq hl (by rw [e2]; nofun)).trans e2, e3, (hkp g hl (h.intb e4).2.1 (.inl (by rw [e2]; nofun))).trans e4, e5⟩
  · by_cases q : b = a
    · subst q
      rw [aget_aput_same h.wi.nodup, effW_self]
      obtain ⟨ad, cap, e1, e2, e3⟩ := hv
      refine ⟨ad, cap, e1, e2, e3.imp_right fun ⟨h8, ho⟩ => ⟨own_frame0 h8 fun g hg => ht3.block g (h8.lt g hg).2 (fun e => ?_), fun g hg => ?_⟩⟩
      · obtain ⟨cur, hc⟩ := own_cells h8 hg
        obtain ⟨arrw, cw, hwm, -⟩ := h.wi
        have := (happ.block bw (Array.getElem?_eq_some_iff.1 hwm).1 (fun ⟨_, _, cur, hc⟩ => by rw [hwm] at hc; cases hc)).trans hwm
        rw [e, this] at hc; cases hc
      · show tagR tag w b v' g = .wth b
        unfold tagR
        refine if_pos ⟨hg, ?_⟩
        by_cases hl : g < w.heap.size
        · exact .inl (ho g hg hl)
        · exact .inr (by omega)
    · rw [aget_aput_other q, effW_ne _ _ q]
      exact (h.wr b).frame fun g cur hg hw => ⟨hkp g (Array.getElem?_eq_some_iff.1 hg).1 (h.intb hg).2.1 (.inl (by rw [hw]; nofun)), tagR_eq (Array.getElem?_eq_some_iff.1 hg).1 (by rw [hw]; nofun)⟩
  · obtain ⟨arrk, ck, hkm, -⟩ := h.kn
    rw [hkm] at hc; cases hc
  · exact hT.mono fun k _ hk => by
      rcases hk with e | e
      · exact .inr (.inl e)
      · exact .inr (.inr (.inr (by rw [e.1]; nofun)))

end

end Go.Proofs.Ytfofabbnbmieoaa.Ord

/- What run's deferred function does. -/
namespace Go.Proofs.Ytfofabbnbmieoaa.Ord
open Go.RowKit Go.Conc

attribute [local go_sem ↓] Go.wp_at_zero Go.wp_at_succ
attribute [local go_sem ↓ high] app_mark

theorem sz_int : ∀ wx, (sizeOf 3).run Try.prog wx = .ok 1 wx := sizeOf_int

theorem from_run {P : Program} {t : TypeId} {kd : RT} {tag : Nat → RT} {B : Nat} {w : World} {lv : Value} {ls : List Nat} {n : Nat} (ht : P.underlying t = some (.slice 3)) (hsz : ∀ wx, (sizeOf 3).run P wx = .ok 1 wx) (hv : WT kd tag B w lv ls) (hn : n < ls.length) :
    ∃ A m c, (∀ wx, (Instr.slice t lv (some (.int .i64 (n : Int))) none none).run P wx = .ok (.slice (some A) m c) wx) ∧ m = (ls.drop n).length ∧ ∀ (j : Nat) (u : Value), (nnts (ls.drop n))[j]? = some u → w.cell? (A.add j) = some u := by
  have he : P.elem t = 3 := by simp [Program.elem, ht]
  obtain ⟨ad, cap, rfl, h2, h3⟩ := hv
  rcases h3 with ⟨-, rfl⟩ | ⟨ho, -⟩
  · simp at hn
  · obtain ⟨-, q2, q3⟩ := own_cap ho
    have hsl := own_slv ho
    cases ad with
    | none => have := (q3 rfl).2; omega
    | some ad =>
      obtain ⟨b, off, e, -⟩ := hsl n (.int .i64 ((ls[n]'hn : Nat) : Int)) (by simp [nnts, hn])
      injection e with e
      subst e
      refine ⟨⟨b, off + n, none⟩, (ls.drop n).length, cap - n, fun wx => ?_, rfl, fun j u hj => ?_⟩
      · rw [run_slice_l (P := P) wx t _ ls.length cap (by rw [he]; exact ht) .i64 n (by omega) (by omega), he, hsz]
        have hne : ¬ cap = n := by omega
        simp [sliced, Result.andThen, hne, Addr.add]
      · obtain ⟨b', off', e', hcell⟩ := hsl (n + j) u (by
          have : nnts (ls.drop n) = (nnts ls).drop n := by simp [nnts, List.map_drop]
          rw [this, List.getElem?_drop] at hj
          exact hj)
        simp at e'
        obtain ⟨rfl, rfl⟩ := e'
        rw [Addr.add_lit, Nat.add_assoc]
        exact hcell

set_option maxRecDepth 100000 in
set_option maxHeartbeats 4000000 in
theorem run11_idle (bK bL bN bX bA : Nat) (w : World) :
    CallsD Try.prog 105 #[.pointer (some ⟨bK, 0, none⟩), .pointer (some ⟨bL, 0, none⟩), .pointer (some ⟨bN, 0, none⟩), .pointer (some ⟨bX, 0, none⟩), .pointer (some ⟨bA, 0, none⟩)] .returning w fun e u' w' =>
      e = .returned (.tuple #[]) ∧ u' = .returning ∧ w' = w := by
  refine callsD_of_wpS Try.func105 rfl fun c₀ cs hu => ?_
  apply wpS_seq
  apply wpS_region
  simp [wpOpsS, go_sem, recoverD, hu, Try.ntmps105, Exit.thenS]
  refine wpS_of_wp ?_
  simp only [Array.replicate_succ, Array.replicate_zero, List.push_toArray, List.nil_append, List.cons_append]
  go_wp2_with fail
  refine ⟨rfl, .returning, ?_, _, results_none rfl _ _ _, rfl, rfl, rfl⟩
  cases c₀
  simp at hu
  rw [hu]

set_option maxRecDepth 100000 in
set_option maxHeartbeats 8000000 in
theorem run11_pan (older : List PanicEntry) (tag : Nat → RT) (B : Nat) (w0 w : World) (bx bw bk : Nat) (vc vt : Value) (dn : Nat) (C : List (List Int)) (us : List Value) (es : List (Int × Value)) (Wt : Int → List Nat) (K : List Int) (a : Int) (n bK bL bN bX bA : Nat) (kv : Value) (ks : List Nat)
    (h : RM tag B w0 w bx bw bk vc vt dn C us es Wt K) (hk : WT .kep tag B w kv ks) (hn : n < (Wt a).length) (hsz : ks.length + (Wt a).length ≤ 4398046511104)
    (hbK : w.heap[bK]? = some (.cells #[kv] 22 (0, 0))) (hbL : w.heap[bL]? = some (.cells #[(aget es a).getD nilS] 22 (0, 0))) (hbN : w.heap[bN]? = some (.cells #[.int .i64 n] 3 (0, 0))) (hbX : w.heap[bX]? = some (.cells #[.pointer (some ⟨bx, 0, none⟩)] 118 (0, 0))) (hbA : w.heap[bA]? = some (.cells #[.int .i64 a] 3 (0, 0))) (htN : tag bN = .oth) (htA : tag bA = .oth) :
    CallsD Try.prog 105 #[.pointer (some ⟨bK, 0, none⟩), .pointer (some ⟨bL, 0, none⟩), .pointer (some ⟨bN, 0, none⟩), .pointer (some ⟨bX, 0, none⟩), .pointer (some ⟨bA, 0, none⟩)] (.panicking ({ v := failV, recovered := false } :: older)) w fun e u' w' =>
      e = .panicked [{ v := failV, recovered := false }] ∧ u' = .panicking ({ v := failV, recovered := true } :: older) ∧ ∃ tag' es', RM tag' B w0 w' bx bw bk vc vt dn C us es' (effW Wt a (ks ++ (Wt a).drop n)) K ∧ TG tag tag' w ∧ Touch (ST tag bx bw bk) w w' := by
  obtain ⟨i0, hi0, hz0, hz1, hz2⟩ := info_parts info_int
  have b0 : w.cell? ⟨bK, 0, none⟩ = some kv := fit_cell (vs := [kv]) hbK 0
  have b1 : w.cell? ⟨bL, 0, none⟩ = some ((aget es a).getD nilS) := fit_cell (vs := [(aget es a).getD nilS]) hbL 0
  have b2 : w.cell? ⟨bN, 0, none⟩ = some (.int .i64 n) := fit_cell (vs := [.int .i64 n]) hbN 0
  have b3 : w.cell? ⟨bX, 0, none⟩ = some (.pointer (some ⟨bx, 0, none⟩)) := fit_cell (vs := [.pointer (some ⟨bx, 0, none⟩)]) hbX 0
  have b4 : w.cell? ⟨bA, 0, none⟩ = some (.int .i64 a) := fit_cell (vs := [.int .i64 a]) hbA 0
  obtain ⟨q0, q1, q2, q3, q4⟩ := h.cells
  obtain ⟨A, m, cm, hsl, hm, hcells⟩ := from_run (P := Try.prog) Try.underlying22 (sz_int) (h.wr a) hn
  generalize hlv : (aget es a).getD nilS = lv at hsl b1 hbL
  obtain ⟨arrw, cw, hwm, hws⟩ := h.wi
  have hwi : IM w bw es := ⟨arrw, cw, hwm, hws⟩
  have nK : bK ≠ bw := fun e => by rw [e, hwm] at hbK; cases hbK
  have nL : bL ≠ bw := fun e => by rw [e, hwm] at hbL; cases hbL
  have nN : bN ≠ bw := fun e => by rw [e, hwm] at hbN; cases hbN
  have nX : bX ≠ bw := fun e => by rw [e, hwm] at hbX; cases hbX
  have nA : bA ≠ bw := fun e => by rw [e, hwm] at hbA; cases hbA
  have nx : bx ≠ bw := h.apart.1
  have HS : Hid (∀ k, (k = bK ∨ k = bL ∨ k = bN ∨ k = bX ∨ k = bA ∨ k = bx ∨ k = bw) → ¬ (tag k = .kep ∧ B ≤ k ∧ ∃ cur : Array Value, w.heap[k]? = some (.cells cur 3 (0, 0)))) := hid fun k hk hh => by
    obtain ⟨e1, -, cur, e3⟩ := hh
    rcases hk with e | e | e | e | e | e | e
    · rw [e, hbK] at e3; simp at e3
    · rw [e, hbL] at e3; simp at e3
    · rw [e, htN] at e1; cases e1
    · rw [e, hbX] at e3; simp at e3
    · rw [e, htA] at e1; cases e1
    · rw [e, h.blk] at e3; simp at e3
    · rw [e, hwm] at e3; cases e3
  have HN := hid (And.intro nK (And.intro nL (And.intro nN (And.intro nX (And.intro nA nx)))))
  have hm0 : 0 < m := by rw [hm, List.length_drop]; omega
  have hml : ks.length + m ≤ 4398046511104 := by rw [hm, List.length_drop]; omega
  have hle := h.le
  have HH := hid h
  have HK := hid hk
  have HW := hid hwi
  have HC := hid hcells
  have HMM := hid hm
  obtain ⟨R, hR⟩ : ∃ R, ks.length = R := ⟨_, rfl⟩
  rw [hR] at hml
  have HR := hid hR
  clear h hk hbK hbL hbN hbX hbA htN htA hwm hws hwi nK nL nN nX nA nx hlv hcells hm hn hsz hR q0 q2 q3 q4
  unfold failV
  refine callsD_of_wpS Try.func105 rfl fun c₀ cs hu => ?_
  apply wpS_seq
  apply wpS_region
  simp [wpOpsS, go_sem, recoverD, hu, Try.ntmps105, Exit.thenS]
  refine wpS_of_wp ?_
  simp only [Array.replicate_succ, Array.replicate_zero, List.push_toArray, List.nil_append, List.cons_append]
  go_wp2_with fail
  go_region_held3 (fun y => y.cell? ⟨bK, 0, none⟩ = some kv ∧ y.cell? ⟨bL, 0, none⟩ = some lv ∧ y.cell? ⟨bN, 0, none⟩ = some (.int .i64 n) ∧ y.cell? ⟨bX, 0, none⟩ = some (.pointer (some ⟨bx, 0, none⟩)) ∧ y.cell? ⟨bA, 0, none⟩ = some (.int .i64 a) ∧ y.cell? ⟨bx, 1, none⟩ = some (.map (some bw))) (first | exact ⟨‹_›, ‹_›, ‹_›, ‹_›, ‹_›, ‹_›⟩ | go_keep)
    ((refine step_append_wt (tag := tag) (B := B) (w := w) rfl _ _ 22 rfl i0 (.int .i64 0) 8 Try.underlying22 hi0 hz0 hz1 hz2 rfl rfl (v := kv) HR.out (by rfl) HK.out (by first | exact Below.refl _ _ | exact (Below.refl _ _).drew) (by exact hle) ((Wt a).drop n) A m cm HMM.out (by exact hm0) (by rfl) (by exact HC.out) (by exact hml) ?_; intro a8 c8 w8 h8 hT8 ho8; have k0 := hT8.cell b0 (HS.out _ (.inl rfl)); have k1 := hT8.cell b1 (HS.out _ (.inr (.inl rfl))); have k2 := hT8.cell b2 (HS.out _ (.inr (.inr (.inl rfl)))); have k3 := hT8.cell b3 (HS.out _ (.inr (.inr (.inr (.inl rfl))))); have k4 := hT8.cell b4 (HS.out _ (.inr (.inr (.inr (.inr (.inl rfl)))))); have k5 := hT8.cell q1 (HS.out _ (.inr (.inr (.inr (.inr (.inr (.inl rfl))))))); obtain ⟨w3, hup, him, ht3, hz3⟩ := im_update (P := Try.prog) Try.underlying99 Try.underlying3 (HW.out.frame (hT8.block bw HW.out.lt (HS.out _ (.inr (.inr (.inr (.inr (.inr (.inr rfl))))))))) a (.slice a8 (R + m) c8); have j0 := ht3.cell k0 HN.out.1; have j1 := ht3.cell k1 HN.out.2.1; have j2 := ht3.cell k2 HN.out.2.2.1; have j3 := ht3.cell k3 HN.out.2.2.2.1; have j4 := ht3.cell k4 HN.out.2.2.2.2.1; have j5 := ht3.cell k5 HN.out.2.2.2.2.2; have H8 := hid h8; have HT8 := hid hT8; have HO8 := hid ho8; have HIM := hid him; have HT3 := hid ht3; clear h8 hT8 ho8 him ht3 hz3))
  all_goals
    go_wp2_with fail
    have hlen : R + m = (ks ++ (Wt a).drop n).length := by rw [List.length_append, HR.out, HMM.out]
    obtain ⟨hM3, hT3⟩ := HH.out.rew HT8.out ⟨a8, c8, by rw [← hlen], fun e => ((own_cap H8.out).2.2 e).1, .inr ⟨by rw [← hlen]; exact H8.out, fun k hk hl => (HO8.out k hk hl).1⟩⟩ HIM.out HT3.out
    exact ⟨rfl, _, rfl, rfl, rfl, _, ⟨_, hM3⟩, tagR_tg _ _ _ _, hT3⟩

end Go.Proofs.Ytfofabbnbmieoaa.Ord

/- The contract of what run does for one clause. -/
namespace Go.Proofs.Ytfofabbnbmieoaa.Ord
open Go.RowKit Go.Conc

attribute [local go_sem ↓] Go.wp_at_zero Go.wp_at_succ
attribute [local go_sem ↓ high] app_mark

/-- What is thrown on. -/
def failP : List PanicEntry := [{ v := failV, recovered := false }, { v := failV, recovered := true }]

/-- What run leaves behind one clause. -/
def run1R (tag : Nat → RT) (B : Nat) (w0 w : World) (bx bw bk : Nat) (vc : Value) (dn : Nat) (C : List (List Int)) (us : List Value) (es : List (Int × Value)) (Wt : Int → List Nat) (K : List Int) (i : Nat) (c : List Int) (a o : Int) (bK : Nat) (ks : List Nat) (n : Nat) (e : Ending) (w' : World) : Prop :=
  (∃ (tag' : Nat → RT) (vt' : Value) (d : List Int) (es' : List (Int × Value)) (Wt' : Int → List Nat) (K' : List Int) (kv' : Value) (ks' : List Nat) (e0 : Ending), e = .returned (.tuple #[]) ∧ RM tag' B w0 w' bx bw bk vc vt' dn (C.set i d) us es' Wt' K' ∧ (∀ g, g < w.heap.size → tag' g = tag g) ∧ Touch (fun k => ST tag bx bw bk k ∨ k = bK) w w' ∧ Same c d ∧ (aget es' a).getD nilS = (aget es a).getD nilS ∧ LookO K i c d a o Wt Wt' K' e0 ∧ WT .kep tag' B w' kv' ks' ∧ w'.heap[bK]? = some (.cells #[kv'] 22 (0, 0)) ∧ ((e0 = .returned (.bool true) ∧ ks' = ks) ∨ (e0 = .returned (.bool false) ∧ ks' = ks ++ [i])))
  ∨ (∃ (tag' : Nat → RT) (vt' : Value) (d : List Int) (es' : List (Int × Value)), e = .panicked failP ∧ RM tag' B w0 w' bx bw bk vc vt' dn (C.set i d) us es' (effW Wt a (ks ++ (Wt a).drop n)) K ∧ TG tag tag' w ∧ Touch (ST tag bx bw bk) w w' ∧ Same c d ∧ LookO K i c d a o Wt Wt K (.panicked [{ v := failV, recovered := false }]))

theorem LookO.ends {K K' : List Int} {i : Nat} {c d : List Int} {a o : Int} {Wt Wt' : Int → List Nat} {e : Ending} (h : LookO K i c d a o Wt Wt' K' e) : e = .returned (.bool true) ∨ e = .returned (.bool false) ∨ (e = .panicked [{ v := failV, recovered := false }] ∧ Wt' = Wt ∧ K' = K) := by
  cases h with
  | known => exact .inr (.inl rfl)
  | moved => exact .inl rfl
  | set => exact .inr (.inl rfl)
  | fail h hf hd hw hK => exact .inr (.inr ⟨rfl, hw, hK⟩)

theorem LookO.stay {K K' : List Int} {i : Nat} {c d : List Int} {a o : Int} {Wt Wt' : Int → List Nat} {e : Ending} (h : LookO K i c d a o Wt Wt' K' e) : Wt' a = Wt a := by
  cases h with
  | known h hd hw hK => rw [hw]
  | moved z h hd hz hw hK => exact hw.2 a fun e => hz.2.1 e.symm
  | set h hf hd hw hK => rw [hw]
  | fail h hf hd hw hK => rw [hw]

/-- A variable of the caller's own, in a block of its own. -/
structure Bx (tag : Nat → RT) (B bx bw bk : Nat) (w : World) (b : Nat) (t : TypeId) (v : Value) : Prop where
  blk : w.heap[b]? = some (.cells #[v] t (0, 0))
  tg : tag b = .oth
  le : B ≤ b
  nx : b ≠ bx
  nw : b ≠ bw
  nk : b ≠ bk

theorem Bx.cell {tag : Nat → RT} {B bx bw bk : Nat} {w : World} {b : Nat} {t : TypeId} {v : Value} (h : Bx tag B bx bw bk w b t v) : w.cell? ⟨b, 0, none⟩ = some v := fit_cell (vs := [v]) h.blk 0

theorem Bx.lt {tag : Nat → RT} {B bx bw bk : Nat} {w : World} {b : Nat} {t : TypeId} {v : Value} (h : Bx tag B bx bw bk w b t v) : b < w.heap.size := (Array.getElem?_eq_some_iff.1 h.blk).1

theorem Bx.not {tag : Nat → RT} {B bx bw bk : Nat} {w : World} {b : Nat} {t : TypeId} {v : Value} (h : Bx tag B bx bw bk w b t v) : ¬ ST tag bx bw bk b := by
  rintro (e | e | e | e)
  · exact h.nx e
  · exact h.nw e
  · exact h.nk e
  · exact e h.tg

theorem Bx.keep {S : Nat → Prop} {tag tag' : Nat → RT} {B bx bw bk : Nat} {w w' : World} {b : Nat} {t : TypeId} {v : Value} (h : Bx tag B bx bw bk w b t v) (hT : Touch S w w') (hn : ¬ S b) (ht : TG tag tag' w) : Bx tag' B bx bw bk w' b t v :=
  ⟨(hT.block b h.lt hn).trans h.blk, ht b h.lt h.tg, h.le, h.nx, h.nw, h.nk⟩

theorem WT.rs {tag tag' : Nat → RT} {B : Nat} {w0 w w' : World} {bx bw bk : Nat} {vc vt : Value} {dn : Nat} {C : List (List Int)} {us : List Value} {es : List (Int × Value)} {Wt : Int → List Nat} {K : List Int} {v : Value} {ns : List Nat} (h : WT .kep tag B w v ns) (hM : RM tag B w0 w bx bw bk vc vt dn C us es Wt K) (hT : Touch (RS tag bx bw bk) w w') (ht : ∀ g, g < w.heap.size → tag' g = tag g) : WT .kep tag' B w' v ns :=
  h.frame fun g cur hg hk => ⟨hT.block g (Array.getElem?_eq_some_iff.1 hg).1 (by
    obtain ⟨q1, q2, q3, -⟩ := hM.intb hg
    rintro (e | e | e | e)
    · exact q1 e
    · exact q2 e
    · exact q3 e
    · exact e.2 hk), ht g (Array.getElem?_eq_some_iff.1 hg).1⟩

set_option maxRecDepth 100000 in
set_option maxHeartbeats 8000000 in
theorem rup_run1 (tag : Nat → RT) (B : Nat) (w0 w : World) (bx bw bk : Nat) (vc vt : Value) (dn : Nat) (C : List (List Int)) (us : List Value) (es : List (Int × Value)) (Wt : Int → List Nat) (K : List Int) (i : Nat) (c : List Int) (a o : Int) (k : Nat) (n bK bL bN bX bA bI bJ : Nat) (kv : Value) (ks : List Nat)
    (h : RM tag B w0 w bx bw bk vc vt dn C us es Wt K) (hc : C[i]? = some c) (hl : 2 ≤ c.length) (hl2 : c.length ≤ 2199023255552) (hnd : c.Nodup) (hb : ∀ x ∈ c, -1048576 ≤ x ∧ x ≤ 1048576)
    (hko : (k = 0 ∧ c[0]? = some a ∧ c[1]? = some o) ∨ (k = 1 ∧ c[0]? = some o ∧ c[1]? = some a)) (ha : -a ∈ K) (hKl : K.length ≤ 2199023255551) (hWl : ∀ b, (Wt b).length ≤ 2199023255552)
    (hk : WT .kep tag B w kv ks) (hn : n < (Wt a).length) (hksl : ks.length ≤ 2199023255551)
    (hbK : Bx tag B bx bw bk w bK 22 kv) (hbL : Bx tag B bx bw bk w bL 22 ((aget es a).getD nilS)) (hbN : Bx tag B bx bw bk w bN 3 (.int .i64 n)) (hbX : Bx tag B bx bw bk w bX 118 (.pointer (some ⟨bx, 0, none⟩))) (hbA : Bx tag B bx bw bk w bA 3 (.int .i64 a)) (hbI : Bx tag B bx bw bk w bI 3 (.int .i64 i)) (hbJ : Bx tag B bx bw bk w bJ 3 (.int .i64 k)) :
    Calls Try.prog 104 #[.pointer (some ⟨bK, 0, none⟩), .pointer (some ⟨bL, 0, none⟩), .pointer (some ⟨bN, 0, none⟩), .pointer (some ⟨bX, 0, none⟩), .pointer (some ⟨bA, 0, none⟩), .pointer (some ⟨bI, 0, none⟩), .pointer (some ⟨bJ, 0, none⟩)] w
      (run1R tag B w0 w bx bw bk vc dn C us es Wt K i c a o bK ks n) := by
  have hmf : ∀ (fn : Fn) (first cap : Array Value) (w : World), (Instr.makeFunc fn first cap).run Try.prog w = .ok (.func fn first cap) w := fun _ _ _ _ => rfl
  obtain ⟨Q, hQ⟩ : ∃ Q : Ending → World → Prop, run1R tag B w0 w bx bw bk vc dn C us es Wt K i c a o bK ks n = Q := ⟨_, rfl⟩
  rw [hQ]
  obtain ⟨i0, hi0, hz0, hz1, hz2⟩ := info_parts info_int
  have b3 := hbX.cell
  have b5 := hbI.cell
  have b6 := hbJ.cell
  have HL := hid (rup_look tag B w0 w bx bw bk vc vt dn C us es Wt K i c a o k h hc hl hl2 hnd hb hko ha hKl hWl)
  have HQ := hid hQ
  have HH := hid h
  have HK := hid hk
  have HN := hid (And.intro hn (And.intro hksl (hWl a)))
  have HB := hid (And.intro hbK (And.intro hbL (And.intro hbN (And.intro hbX (And.intro hbA hbI)))))
  clear hc hl hl2 hnd hb hko ha hKl hWl hk hn hksl hbK hbL hbN hbX hbA hbI hbJ h hQ
  go_enter_defers Try.func104, Try.ntmps104
  go_wp2_with fail
  refine HL.out.mono ?_
  rintro e w2 ⟨tag2, vt2, d, es2, Wt2, K2, hM, htg, hT, hsm, hae, hout⟩
  have HM := hid hM
  have HTG := hid htg
  have HT := hid hT
  have HS := hid (And.intro hsm hae)
  have hB2 := fun (b : Nat) (t : TypeId) (v : Value) (hb : Bx tag B bx bw bk w b t v) => hb.keep hT (fun q => hb.not q.st) (TG.of_eq htg)
  have hK2 := HK.out.rs HH.out hT htg
  have HK2 := hid hK2
  have HB2 := hid hB2
  clear hM htg hT hsm hae hB2 hK2 b3 b5 b6
  have HO := hid hout
  rcases hout.ends with rfl | rfl | ⟨rfl, rfl, rfl⟩
  · clear hout
    have HF : Hid (Q (.returned (.tuple #[])) w2) := hid (by
      rw [← HQ.out]
      exact .inl ⟨tag2, vt2, d, es2, Wt2, K2, kv, ks, _, rfl, HM.out, HTG.out, HT.out.mono fun q _ hq => .inl hq.st, HS.out.1, HS.out.2 a HO.out.stay, HO.out, HK2.out, (HB2.out _ _ _ HB.out.1).blk, .inl ⟨rfl, rfl⟩⟩)
    go_wp2_with fail
    refine leaves_cons (f := 105) (args := #[.pointer (some ⟨bK, 0, none⟩), .pointer (some ⟨bL, 0, none⟩), .pointer (some ⟨bN, 0, none⟩), .pointer (some ⟨bX, 0, none⟩), .pointer (some ⟨bA, 0, none⟩)]) (by simp) (by simp [go_sem]) ?_
    refine (run11_idle _ _ _ _ _ _).mono ?_
    rintro e u' w'' ⟨rfl, rfl, rfl⟩
    exact ⟨_, results_none rfl _ _ _, HF.out⟩
  · clear hout
    have b0 := (HB2.out _ _ _ HB.out.1).cell
    have b5 := (HB2.out _ _ _ HB.out.2.2.2.2.2).cell
    have hksl := HN.out.2.1
    obtain ⟨a6, c6, w6, hr6, ho6, hT6, hk6⟩ := appM_wt (P := Try.prog) (w := w2) (w2.alloc (.cells #[.int .i64 (i : Int)] 3 (0, 0))) 22 22 i0 (.int .i64 0) 8 Try.underlying22 hi0 hz0 hz1 hz2 rfl rfl HK2.out (box_below _ _) HM.out.le [i] ⟨w2.heap.size, 0, none⟩ 1 1 rfl (by decide) (cells_one (heap_alloc_new _ _)) (by omega)
    have hbK2 := HB2.out _ _ _ HB.out.1
    have hbK6 : w6.heap[bK]? = some (.cells #[kv] 22 (0, 0)) := (hT6.block bK hbK2.lt (fun q => by rw [hbK2.tg] at q; cases q.1)).trans hbK2.blk
    have hf6 : w6.frozen? ⟨bK, 0, none⟩ = false := frozen_of_row _ _ _ _ _ hbK6
    have hc6 : w6.cell? ⟨bK, 0, none⟩ = some kv := fit_cell (vs := [kv]) hbK6 0
    have hT7 : Touch (fun q => (tag2 q = .kep ∧ B ≤ q ∧ ∃ cur : Array Value, w2.heap[q]? = some (.cells cur 3 (0, 0))) ∨ q = bK) w2 (w6.setCell ⟨bK, 0, none⟩ (.slice a6 (ks.length + 1) c6)) := (hT6.mono fun q _ hq => .inl hq).setCell (.inr rfl) _
    have hb7 := setCell_block (xs := [kv]) (o := 0) (.slice a6 (ks.length + 1) c6) hbK6
    have ho7 : (w6.setCell ⟨bK, 0, none⟩ (.slice a6 (ks.length + 1) c6)).ownsRow B 3 1 (.slice a6 (ks.length + 1) c6) (ks.length + 1) (nnts (ks ++ [i])) := own_setO ho6 hbK6 (by decide) _ _
    have HF : Hid (Q (.returned (.tuple #[])) (w6.setCell ⟨bK, 0, none⟩ (.slice a6 (ks.length + 1) c6))) := hid (by
      rw [← HQ.out]
      have hsz := HT.out.size
      refine .inl ⟨fun q => if q < w2.heap.size then tag2 q else .kep, vt2, d, es2, Wt2, K2, .slice a6 (ks.length + 1) c6, ks ++ [i], _, rfl, HM.out.oth (hT7.mono fun q _ hq => ?_) (fun q hq => if_pos hq), fun q hq => (if_pos (by omega)).trans (HTG.out q hq), (HT.out.mono fun q _ hq => (.inl hq.st : ST tag bx bw bk q ∨ q = bK)).trans' hT7 (fun q hq hs => ?_), HS.out.1, HS.out.2 a HO.out.stay, HO.out, ⟨a6, c6, by simp, fun e => ((own_cap ho7).2.2 e).1, .inr ⟨by rw [List.length_append]; exact ho7, fun q hq => ?_⟩⟩, hb7, .inr ⟨rfl, rfl⟩⟩
      · rcases hq with ⟨e1, e2, cur, e3⟩ | e
        · obtain ⟨q1, q2, q3, -⟩ := HM.out.intb e3
          exact ⟨e2, q1, q2, q3, .inr e1⟩
        · rw [e]
          exact ⟨hbK2.le, hbK2.nx, hbK2.nw, hbK2.nk, .inl hbK2.tg⟩
      · rcases hs with ⟨e1, -⟩ | e
        · exact .inl (.inr (.inr (.inr (by rw [← HTG.out q hq, e1]; nofun))))
        · exact .inr e
      · show (if q < w2.heap.size then tag2 q else RT.kep) = RT.kep
        by_cases hql : q < w2.heap.size
        · rw [if_pos hql]; exact (hk6 q hq hql).1
        · rw [if_neg hql])
    obtain ⟨R, hR⟩ : ∃ R, ks.length = R := ⟨_, rfl⟩
    rw [hR] at hr6 HF
    clear ho6 hT6 hk6 hbK2 hbK6 hT7 hb7 ho7 hksl hR
    go_wp2_with fail
    refine leaves_cons (f := 105) (args := #[.pointer (some ⟨bK, 0, none⟩), .pointer (some ⟨bL, 0, none⟩), .pointer (some ⟨bN, 0, none⟩), .pointer (some ⟨bX, 0, none⟩), .pointer (some ⟨bA, 0, none⟩)]) (by simp) (by simp [go_sem]) ?_
    refine (run11_idle _ _ _ _ _ _).mono ?_
    rintro e u' w'' ⟨rfl, rfl, rfl⟩
    exact ⟨_, results_none rfl _ _ _, HF.out⟩
  · clear hout
    have HP := hid (run11_pan [] tag2 B w0 w2 bx bw bk vc vt2 dn _ us es2 Wt2 K2 a n bK bL bN bX bA kv ks HM.out HK2.out HN.out.1 (by have := HN.out.2; omega) (HB2.out _ _ _ HB.out.1).blk (by rw [HS.out.2 a rfl]; exact (HB2.out _ _ _ HB.out.2.1).blk) (HB2.out _ _ _ HB.out.2.2.1).blk (HB2.out _ _ _ HB.out.2.2.2.1).blk (HB2.out _ _ _ HB.out.2.2.2.2.1).blk (HB2.out _ _ _ HB.out.2.2.1).tg (HB2.out _ _ _ HB.out.2.2.2.2.1).tg)
    go_wp2_with fail
    refine leaves_cons (f := 105) (args := #[.pointer (some ⟨bK, 0, none⟩), .pointer (some ⟨bL, 0, none⟩), .pointer (some ⟨bN, 0, none⟩), .pointer (some ⟨bX, 0, none⟩), .pointer (some ⟨bA, 0, none⟩)]) (by simp) (by simp [go_sem]) ?_
    refine HP.out.mono ?_
    rintro e u' w'' ⟨rfl, rfl, tag3, es3, hM3, hG3, hT3⟩
    show Q (.panicked failP) w''
    rw [← HQ.out]
    exact .inr ⟨tag3, vt2, d, es3, rfl, hM3, (TG.of_eq HTG.out).trans hG3 HT.out.size, (HT.out.mono fun q _ hq => hq.st).st (TG.of_eq HTG.out) hT3, HS.out.1, HO.out⟩

end Go.Proofs.Ytfofabbnbmieoaa.Ord

/- What run leaves, and the plain law of its rounds. -/
namespace Go.Proofs.Ytfofabbnbmieoaa.Ord
open Go.RowKit Go.Conc

/-- The same clauses, their literals in other orders. -/
def CP (C C' : List (List Int)) : Prop := C'.length = C.length ∧ ∀ (i : Nat) (c : List Int), C[i]? = some c → ∃ d, C'[i]? = some d ∧ Same c d

theorem CP.trans {C1 C2 C3 : List (List Int)} (h : CP C1 C2) (k : CP C2 C3) : CP C1 C3 := ⟨k.1.trans h.1, fun i c hc => by
  obtain ⟨d, h1, h2⟩ := h.2 i c hc
  obtain ⟨e, h3, h4⟩ := k.2 i d h1
  exact ⟨e, h3, h2.trans h4⟩⟩

theorem CP.refl {C : List (List Int)} (h : ∀ c ∈ C, c.Nodup) : CP C C := ⟨rfl, fun _ c hc => ⟨c, hc, rfl, h c (List.mem_of_getElem? hc), fun _ => Iff.rfl⟩⟩

theorem CP.set {C : List (List Int)} {i : Nat} {c d : List Int} (h : ∀ c ∈ C, c.Nodup) (hc : C[i]? = some c) (hs : Same c d) : CP C (C.set i d) := ⟨by simp, fun t e he => by
  rw [set_get hc]
  by_cases q : t = i
  · subst q
    rw [he] at hc
    injection hc with hc
    subst hc
    exact ⟨d, if_pos rfl, hs⟩
  · exact ⟨e, by rw [if_neg q]; exact he, rfl, h e (List.mem_of_getElem? he), fun _ => Iff.rfl⟩⟩

theorem WI.len {n : Nat} {C : List (List Int)} {Wt : Int → List Nat} (h : WI n C Wt) (b : Int) : (Wt b).length ≤ C.length := by
  refine nodup_below _ _ ?_ (h.lt b)
  refine List.nodup_iff_count.2 fun i => ?_
  by_cases hi : i ∈ Wt b
  · have hl := h.lt b i hi
    rw [h.cnt i _ b (List.getElem?_eq_getElem hl)]
    split <;> omega
  · rw [List.count_eq_zero.2 hi]; omega

theorem WI.nodup {n : Nat} {C : List (List Int)} {Wt : Int → List Nat} (h : WI n C Wt) : ∀ c ∈ C, c.Nodup := fun c hc => (h.cls c hc).2.1

section
variable {n : Nat} {F : List (List Int)} {A : List Int} {C : List (List Int)} {Wt Wt' : Int → List Nat} {K K' P0 K0 : List Int} {a o : Int} {kept rest : List Nat} {i : Nat} {c d : List Int} {e : Ending}

/-- The clause stays, the other literal is false: all is bad. -/
theorem IL.fail (h : IL n F A C Wt K P0 K0 a kept (i :: rest)) (hc : C[i]? = some c) (hs : Same c d) (hd0 : d[0]? = some o) (hd1 : d[1]? = some a) (hcw : ∀ b, (c[0]? = some b ∨ c[1]? = some b) ↔ (b = a ∨ b = o)) (hf : ∀ x ∈ c, x ≠ o → -x ∈ K) (hno : -o ∈ K) :
    WI n (C.set i d) (effW Wt a (kept ++ i :: rest)) ∧ PrB (C.set i d) K0 ∧ Bad F A := by
  have hcm := h.wi.cls c (List.mem_of_getElem? hc)
  obtain ⟨p, q, hp, hq⟩ := two_get hcm.1
  have hpq := pairs hcw hp hq hcm.2.1
  have hoc : o ∈ c := (hs.2.2 o).1 (List.mem_of_getElem? hd0)
  refine ⟨h.wi.perm hc hs fun b => ?_, fun t e x y ht hx hy => ?_, .inl ⟨o, h.derive (List.mem_of_getElem? hc) hoc hf, h.snd _ hno⟩⟩
  · rw [hcw b, hd0, hd1]
    constructor
    · rintro (q | q)
      · injection q with q; exact .inr q.symm
      · injection q with q; exact .inl q.symm
    · rintro (q | q)
      · exact .inr (by rw [q])
      · exact .inl (by rw [q])
  · rw [set_get hc] at ht
    split at ht
    · rename_i e1
      subst e1
      injection ht with ht
      subst ht
      rw [hd0] at hx
      rw [hd1] at hy
      injection hx with hx
      injection hy with hy
      subst hx hy
      have := h.bp t c p q hc hp hq
      rcases hpq with ⟨e1, e2⟩ | ⟨e1, e2⟩
      · subst e1 e2; exact ⟨this.2, this.1⟩
      · subst e1 e2; exact this
    · exact h.bp t e x y ht hx hy

/-- What a look that ends leaves. -/
theorem IL.looked (h : IL n F A C Wt K P0 K0 a kept (i :: rest)) (hc : C[i]? = some c) (hs : Same c d) (hcw : ∀ b, (c[0]? = some b ∨ c[1]? = some b) ↔ (b = a ∨ b = o)) (hao : a ≠ o) (hl : LookO K i c d a o Wt Wt' K' e) :
    (e = .returned (.bool true) → IL n F A (C.set i d) Wt' K' P0 K0 a kept rest) ∧ (e = .returned (.bool false) → IL n F A (C.set i d) Wt' K' P0 K0 a (kept ++ [i]) rest) ∧ ∃ R, K' = K ++ R := by
  have hcC := List.mem_of_getElem? hc
  have hcm := h.wi.cls c hcC
  cases hl with
  | known ho hd hw hK =>
    subst hw hK
    exact ⟨nofun, fun _ => h.keep hc hs hd.1 hd.2 hcw hao (fun _ hx => hx) ho h.cons h.nod h.kok h.snd, [], by simp⟩
  | moved z ho hd hz hw hK =>
    subst hK
    exact ⟨fun _ => h.move hc hs hd.1 hd.2 hcw hao hz.2.1.symm hz.2.2.1 hz.2.2.2 hw.1 hw.2, nofun, [], by simp⟩
  | set ho hf hd hw hK =>
    subst hw hK
    have hoc : o ∈ c := (hs.2.2 o).1 (List.mem_of_getElem? hd.1)
    have hok := hcm.2.2.1 o hoc
    refine ⟨nofun, fun _ => h.keep hc hs hd.1 hd.2 hcw hao (fun _ hx => List.mem_append_left _ hx) (by simp) (fun x hx hn => ?_) ?_ (fun x hx => ?_) (fun x hx => ?_), [o], rfl⟩
    · rcases List.mem_append.1 hx with q | q <;> rcases List.mem_append.1 hn with p | p
      · exact h.cons x q p
      · have e : -x = o := by simpa using p
        exact ho.2 (by rw [← e, Int.neg_neg]; exact q)
      · have e : x = o := by simpa using q
        exact ho.2 (by rw [← e]; exact p)
      · have e1 : x = o := by simpa using q
        have e2 : -x = o := by simpa using p
        have := hok.1
        omega
    · exact List.nodup_append.2 ⟨h.nod, by simp, fun x hx y hy => by
        have : y = o := by simpa using hy
        rintro rfl
        exact ho.1 (this ▸ hx)⟩
    · rcases List.mem_append.1 hx with q | q
      · exact h.kok x q
      · have : x = o := by simpa using q
        rw [this]; exact hok
    · rcases List.mem_append.1 hx with q | q
      · exact h.snd x q
      · have : x = o := by simpa using q
        rw [this]; exact h.derive hcC hoc hf
  | fail ho hf hd hw hK =>
    subst hK
    exact ⟨nofun, nofun, [], by simp⟩

theorem LookO.failed (h : LookO K i c d a o Wt Wt' K' (.panicked [{ v := failV, recovered := false }])) : -o ∈ K ∧ (∀ x ∈ c, x ≠ o → -x ∈ K) ∧ d[0]? = some o ∧ d[1]? = some a := by
  cases h with
  | fail ho hf hd hw hK => exact ⟨ho, hf, hd.1, hd.2⟩

end

/-- What run leaves. -/
def rrunR (tag : Nat → RT) (B : Nat) (w0 w : World) (bx bw bk : Nat) (vc : Value) (C : List (List Int)) (us : List Value) (K K0 : List Int) (n : Nat) (F : List (List Int)) (A : List Int) (e : Ending) (w' : World) : Prop :=
  ∃ (tag' : Nat → RT) (vt' : Value) (dn' : Nat) (C' : List (List Int)) (es' : List (Int × Value)) (Wt' : Int → List Nat) (K' : List Int), RM tag' B w0 w' bx bw bk vc vt' dn' C' us es' Wt' K' ∧ (∃ R, K' = K ++ R) ∧ CP C C' ∧ TG tag tag' w ∧ Touch (ST tag bx bw bk) w w' ∧
    ((e = .returned (.tuple #[]) ∧ dn' = K'.length ∧ RI n F A C' Wt' K' K0 dn') ∨ (e = .panicked failP ∧ WI n C' Wt' ∧ PrB C' K0 ∧ Bad F A ∧ (∀ x ∈ K', -x ∉ K') ∧ ∀ x ∈ K', LitOk n x))

section
variable {tag : Nat → RT} {B : Nat} {w0 w : World} {bx bw bk : Nat} {vc vt : Value} {dn : Nat} {C : List (List Int)} {us : List Value} {es : List (Int × Value)} {Wt : Int → List Nat} {K : List Int}

theorem setCell4 {w : World} {b : Nat} {e : TypeId} {x0 x1 x2 x3 x4 y : Value} (h : w.heap[b]? = some (.cells #[x0, x1, x2, x3, x4] e (0, 0))) : (w.setCell ⟨b, 4, none⟩ y).heap[b]? = some (.cells #[x0, x1, x2, x3, y] e (0, 0)) := by
  have h1 := setCell_block (o := 4) y (xs := [x0, x1, x2, x3, x4]) h
  exact h1

/-- The number of what was looked at is set. -/
theorem RM.done (h : RM tag B w0 w bx bw bk vc vt dn C us es Wt K) (m : Nat) : RM tag B w0 (w.setCell ⟨bx, 4, none⟩ (.int .i64 m)) bx bw bk vc vt m C us es Wt K ∧ Touch (ST tag bx bw bk) w (w.setCell ⟨bx, 4, none⟩ (.int .i64 m)) := by
  obtain ⟨a1, a2, a3, a4, a5, a6, a7, a8, a9⟩ := h.apart
  have hT : Touch (fun k => k = bx ∨ k = bk ∨ vt.ownBlock = some k) w (w.setCell ⟨bx, 4, none⟩ (.int .i64 m)) := (Touch.refl (fun k => k = bx ∨ k = bk ∨ vt.ownBlock = some k) w).setCell (p := ⟨bx, 4, none⟩) (.inl rfl) _
  have hne : ∀ k, k ≠ bx → (w.setCell ⟨bx, 4, none⟩ (.int .i64 m)).heap[k]? = w.heap[k]? := fun k hk => heap_setCell_other w ⟨bx, 4, none⟩ k _ hk
  exact ⟨h.known hT (fun _ _ => rfl) (setCell4 h.blk) (own_frame0 h.tr fun g hg => hne g fun e => a6 (e ▸ hg)) h.trt (h.kn.frame (hne bk fun e => a2 e.symm)), hT.mono fun k _ hk => by
    rcases hk with e | e | e
    · exact .inl e
    · exact .inr (.inr (.inl e))
    · exact .inr (.inr (.inr (by rw [h.trt k e]; nofun)))⟩

/-- A new variable. -/
theorem RM.var (h : RM tag B w0 w bx bw bk vc vt dn C us es Wt K) {w' : World} (hb : Below w.heap.size w w') {t : TypeId} {v : Value} {b : Nat} (hbl : w.heap.size ≤ b) (hc : w'.heap[b]? = some (.cells #[v] t (0, 0))) : RM (fun g => if g < w.heap.size then tag g else .oth) B w0 w' bx bw bk vc vt dn C us es Wt K ∧ Bx (fun g => if g < w.heap.size then tag g else .oth) B bx bw bk w' b t v := by
  have h1 := (Array.getElem?_eq_some_iff.1 h.blk).1
  have h2 := h.wi.lt
  have h3 := h.kn.lt
  have h4 := h.le
  exact ⟨h.grow hb fun g hg => if_pos hg, hc, if_neg (by omega), by omega, by omega, by omega, by omega⟩

theorem tg_if (tag : Nat → RT) (w : World) : TG tag (fun g => if g < w.heap.size then tag g else .oth) w := fun _ hg ht => (if_pos hg).trans ht

theorem Below.touch {S : Nat → Prop} {w w' : World} (h : Below w.heap.size w w') : Touch S w w' := ⟨h.os, h.tape, h.output, h.size, fun k hk _ => h.block k hk⟩

end

end Go.Proofs.Ytfofabbnbmieoaa.Ord

/- The contract of rup's run. -/
namespace Go.Proofs.Ytfofabbnbmieoaa.Ord
open Go.RowKit Go.Conc

attribute [local go_sem ↓] Go.wp_at_zero Go.wp_at_succ
attribute [local go_sem ↓ high] app_mark

/-- What holds between two literals of the trail. -/
structure RO (tag : Nat → RT) (B : Nat) (w0 w : World) (bx bw bk b1 : Nat) (vc : Value) (C : List (List Int)) (us : List Value) (K K0 : List Int) (n : Nat) (F : List (List Int)) (A : List Int) (wr : World) (tag' : Nat → RT) (vt' : Value) (dn' : Nat) (C' : List (List Int)) (es' : List (Int × Value)) (Wt' : Int → List Nat) (K' : List Int) : Prop where
  rm : RM tag' B w0 wr bx bw bk vc vt' dn' C' us es' Wt' K'
  ri : RI n F A C' Wt' K' K0 dn'
  pre : ∃ R, K' = K ++ R
  cp : CP C C'
  tg : TG tag tag' w
  tt : Touch (ST tag bx bw bk) w wr
  bX : Bx tag' B bx bw bk wr b1 118 (.pointer (some ⟨bx, 0, none⟩))

/-- What holds between two clauses of a watch list. -/
structure RJ (tag : Nat → RT) (B : Nat) (w0 w : World) (bx bw bk b1 b2 b3 b4 : Nat) (vc : Value) (C : List (List Int)) (us : List Value) (Kd K0 : List Int) (n : Nat) (F : List (List Int)) (A : List Int) (dn : Nat) (a : Int) (lv : Value) (ls : List Nat) (wi : World) (tag' : Nat → RT) (vt' : Value) (C' : List (List Int)) (es' : List (Int × Value)) (Wt' : Int → List Nat) (K' : List Int) (kv : Value) (ks : List Nat) (j : Nat) : Prop where
  rm : RM tag' B w0 wi bx bw bk vc vt' (dn + 1) C' us es' Wt' K'
  il : IL n F A C' Wt' K' (Kd.take dn) K0 a ks (ls.drop j)
  pre : ∃ R, K' = Kd ++ R
  cp : CP C C'
  tg : TG tag tag' w
  tt : Touch (ST tag bx bw bk) w wi
  bX : Bx tag' B bx bw bk wi b1 118 (.pointer (some ⟨bx, 0, none⟩))
  bA : Bx tag' B bx bw bk wi b2 3 (.int .i64 a)
  bL : Bx tag' B bx bw bk wi b3 22 lv
  bK : Bx tag' B bx bw bk wi b4 22 kv
  wk : WT .kep tag' B wi kv ks
  lv : (aget es' a).getD nilS = lv
  wl : Wt' a = ls
  kl : ks.length ≤ j
  b4w : w.heap.size ≤ b4

theorem slice_00 {al : Option Addr} {m cl : Nat} : ∀ wx, (Instr.slice 22 (.slice al m cl) none (some (.int .i64 0)) (some (.int .i64 0))).run Try.prog wx = .ok (.slice al 0 0) wx := fun wx => by
  have he : Try.prog.elem 22 = 3 := by simp [Program.elem, Try.underlying22]
  rw [run_slice_hm (P := Try.prog) wx 22 al m cl (by rw [he]; exact Try.underlying22) .i64 .i64 0 0 (by omega) (by omega) (by omega), he, sz_int]
  simp [sliced, Result.andThen]

set_option maxRecDepth 100000 in
set_option maxHeartbeats 8000000 in
theorem rup_run (tag : Nat → RT) (B : Nat) (w0 w : World) (bx bw bk : Nat) (vc vt : Value) (dn : Nat) (C : List (List Int)) (us : List Value) (es : List (Int × Value)) (Wt : Int → List Nat) (K K0 : List Int) (n : Nat) (F : List (List Int)) (A : List Int)
    (h : RM tag B w0 w bx bw bk vc vt dn C us es Wt K) (hR : RI n F A C Wt K K0 dn) (hn : n ≤ 1048576) (hC : C.length ≤ 2199023255551) :
    Calls Try.prog 91 #[.pointer (some ⟨bx, 0, none⟩)] w (rrunR tag B w0 w bx bw bk vc C us K K0 n F A) := by
  have hmf : ∀ (fn : Fn) (first cap : Array Value) (w : World), (Instr.makeFunc fn first cap).run Try.prog w = .ok (.func fn first cap) w := fun _ _ _ _ => rfl
  obtain ⟨Q, hQ⟩ : ∃ Q : Ending → World → Prop, rrunR tag B w0 w bx bw bk vc C us K K0 n F A = Q := ⟨_, rfl⟩
  rw [hQ]
  have HQ := hid hQ
  clear hQ
  have HCP : Hid (CP C C) := hid (CP.refl hR.wi.nodup)
  have HCl := hid (And.intro hn hC)
  have HH := hid h
  have HR := hid hR
  clear h hR hn hC
  go_enter Try.func91, Try.ntmps91
  go_wp2_with fail
  obtain ⟨w1, hw1⟩ : ∃ w1, w.alloc (.cells #[.pointer (some ⟨bx, 0, none⟩)] 118) = w1 := ⟨_, rfl⟩
  rw [hw1]
  have hb1 : Below w.heap.size w w1 := by rw [← hw1]; exact box_below _ _
  have hc1 : w1.heap[w.heap.size]? = some (.cells #[.pointer (some ⟨bx, 0, none⟩)] 118 (0, 0)) := by rw [← hw1]; exact heap_alloc_new _ _
  obtain ⟨b1, hbe⟩ : ∃ b1, w.heap.size = b1 := ⟨_, rfl⟩
  obtain ⟨hM1, hX1⟩ := HH.out.var hb1 (Nat.le_refl _) hc1
  rw [hbe] at hX1 ⊢
  have HRO : Hid (RO tag B w0 w bx bw bk b1 vc C us K K0 n F A w1 (fun g => if g < w.heap.size then tag g else .oth) vt dn C es Wt K) := hid ⟨hM1, HR.out, ⟨[], by simp⟩, HCP.out, tg_if _ _, (Below.touch hb1), by rw [hbe] at *; exact hX1⟩
  clear hM1 hX1 hc1 hb1 hw1 HCP hbe
  go_loopw [] (fun wr => ∃ (tag' : Nat → RT) (vt' : Value) (dn' : Nat) (C' : List (List Int)) (es' : List (Int × Value)) (Wt' : Int → List Nat) (K' : List Int), Hid (RO tag B w0 w bx bw bk b1 vc C us K K0 n F A wr tag' vt' dn' C' es' Wt' K')) (fun wr => (2097152 - intOf ((wr.cell? ⟨bx, 4, none⟩).getD undef)).toNat)
  case atStart => exact ⟨_, _, _, _, _, _, _, HRO⟩
  case round =>
    obtain ⟨tag1, vt1, dn1, C1, es1, Wt1, K1, HO⟩ := hrel
    have hlen : K1.length ≤ n := lits_le HO.out.ri.nod HO.out.ri.cons HO.out.ri.kok
    have hdl := HO.out.ri.dl
    have hnn := HCl.out.1
    obtain ⟨q0, q1, q2, q3, q4⟩ := HO.out.rm.cells
    have p1 := HO.out.bX.cell
    obtain ⟨at1, ct1, hvt⟩ := own_lenV' HO.out.rm.tr
    subst hvt
    by_cases hlt : dn1 < K1.length
    · have hlt2 : (dn1 : Int) < K1.length := by omega
      obtain ⟨la, hla⟩ : ∃ la, K1[dn1]? = some la := ⟨_, List.getElem?_eq_getElem hlt⟩
      obtain ⟨bt, ot, hat, hct⟩ := own_slv HO.out.rm.tr dn1 (.int .i64 la) (by simp [ints, hla])
      subst hat
      have hlo := HO.out.ri.kok la (List.mem_of_getElem? hla)
      have hwa : IntKind.i64.wrap (-la) = -la := IntWalk.i64_in _ (by have := hlo.2; omega)
      have hwd : IntKind.i64.wrap ((dn1 : Int) + 1) = (dn1 : Int) + 1 := IntWalk.i64_in _ (by omega)
      have HLA := hid (And.intro hla hlo)
      have HLE := hid (And.intro hlen (And.intro hdl (And.intro hlt hnn)))
      clear hla hlo hlen hdl hnn hlt q0 q2
      go_wp2_with fail
      go_quiet (fail)
      go_wp2_with fail
      have HBD : Hid (Below wr.heap.size wr (wr.drewN nq)) := hid (below_dr (Below.refl _ _) _)
      have HSZ : Hid ((wr.drewN nq).heap.size = wr.heap.size) := hid rfl
      replace q3 : (wr.drewN nq).cell? ⟨bx, 3, none⟩ = _ := q3
      replace q4 : (wr.drewN nq).cell? ⟨bx, 4, none⟩ = _ := q4
      replace p1 : (wr.drewN nq).cell? ⟨b1, 0, none⟩ = _ := p1
      replace hct : (wr.drewN nq).cell? ⟨bt, ot + dn1, none⟩ = _ := hct
      generalize wr.drewN nq = wd at HBD HSZ q3 q4 p1 hct ⊢
      have n1 := World.new_ne wd _ p1
      have n3 := World.new_ne wd _ q3
      have n4 := World.new_ne wd _ q4
      have nt := World.new_ne wd _ hct
      go_cut [2] (fun s2 wx => s2 = .pointer (some ⟨wd.heap.size, 0, none⟩) ∧ Hid (Below wd.heap.size wd wx) ∧ Hid (wx.heap[wd.heap.size]? = some (.cells #[.int .i64 (-la)] 3 (0, 0))))
      case first =>
        go_region_held3 (fun y => y.cell? ⟨b1, 0, none⟩ = some (.pointer (some ⟨bx, 0, none⟩)) ∧ y.cell? ⟨bx, 3, none⟩ = some (.slice (some ⟨bt, ot, none⟩) K1.length ct1) ∧ y.cell? ⟨bx, 4, none⟩ = some (.int .i64 dn1) ∧ y.cell? ⟨bt, ot + dn1, none⟩ = some (.int .i64 la)) (go_keep) (fail)
        all_goals
          go_wp2_with fail
          go_meet
          case rel => exact ⟨rfl, hid (box_below _ _).drew, hid (heap_alloc_new _ _)⟩
      case rest =>
        obtain ⟨rfl, HB2, HC2⟩ := hcut
        obtain ⟨hM2, hX2⟩ := (HO.out.rm.grow HBD.out (tag' := tag1) (fun _ _ => rfl)).var HB2.out (Nat.le_refl _) HC2.out
        have hBr : Below wr.heap.size wr wc := HBD.out.trans (HB2.out.mono (by rw [HSZ.out]; exact Nat.le_refl _))
        have hg2 : TG tag1 (fun g => if g < wd.heap.size then tag1 g else .oth) wr := fun _ hg ht => (if_pos (by rw [HSZ.out]; exact hg)).trans ht
        have hbX2 := HO.out.bX.keep (S := fun _ => False) (Below.touch hBr) (fun h => h) hg2
        have hT2 : Touch (ST tag bx bw bk) w wc := HO.out.tt.st HO.out.tg (Below.touch hBr)
        have hG2 := HO.out.tg.trans hg2 HO.out.tt.size
        obtain ⟨tag2, ht2⟩ : ∃ t, (fun g => if g < wd.heap.size then tag1 g else RT.oth) = t := ⟨_, rfl⟩
        rw [ht2] at hM2 hX2 hbX2 hG2
        obtain ⟨b2, hb2⟩ : ∃ b, wd.heap.size = b := ⟨_, rfl⟩
        rw [hb2] at hX2 ⊢
        have hb12 : b1 ≠ b2 := by have := HO.out.bX.lt; rw [← hb2, HSZ.out]; omega
        obtain ⟨hM3, hT3⟩ := hM2.done (dn1 + 1)
        have e1 : ((dn1 + 1 : Nat) : Int) = (dn1 : Int) + 1 := by omega
        rw [e1] at hM3 hT3
        clear q3 q4 p1 hct n1 n3 n4 nt
        have p1 := hbX2.cell
        have q4 := hM2.cells.2.2.2.2
        have f4 : wc.frozen? ⟨bx, 4, none⟩ = false := frozen_of_row _ _ _ _ _ hM2.blk
        have hX3 := hX2.keep hT3 hX2.not (TG.refl _ _)
        have hbX3 := hbX2.keep hT3 hbX2.not (TG.refl _ _)
        have HT3 : Hid (Touch (ST tag bx bw bk) w (wc.setCell ⟨bx, 4, none⟩ (.int .i64 ((dn1 : Int) + 1)))) := hid (hT2.st hG2 hT3)
        have HM3 := hid hM3
        have HX3 := hid (And.intro hX3 hbX3)
        have HG2 := hid hG2
        have HN12 := hid hb12
        clear hM2 hX2 hBr hg2 hbX2 hT2 hG2 ht2 hb2 hM3 hT3 e1 hX3 hbX3 HB2 HC2 HSZ HBD hb12
        go_wp2_with fail
        generalize wc.setCell ⟨bx, 4, none⟩ (.int .i64 ((dn1 : Int) + 1)) = we at HM3 HX3 HT3 ⊢
        clear p1 q4 f4
        have p1 := HX3.out.2.cell
        have p2 := HX3.out.1.cell
        have q1 := HM3.out.cells.2.1
        obtain ⟨al, cl, hval, hwv2, hwv3⟩ := HM3.out.wr (-la)
        have hlG : ∀ y : World, IM y bw es1 → (Instr.lookup 99 (.map (some bw)) (.int .i64 (-la)) false).run Try.prog y = .ok (.slice al (Wt1 (-la)).length cl) y := fun y hy => by
          rw [im_lookup (P := Try.prog) Try.underlying99 Try.underlying3 (z := .slice none 0 0) (by kernel_rfl) hy (-la)]
          exact congrArg (fun v => Result.ok v y) hval
        have hl0 := hlG we HM3.out.wi
        have hl1 := hlG we.drew (HM3.out.wi.frame rfl)
        have hl2 := fun o => hlG (we.alloc o) (HM3.out.wi.frame (Below.heap_alloc _ _ _ HM3.out.wi.lt))
        have hl3 := fun o => hlG (we.alloc o).drew (HM3.out.wi.frame (Below.heap_alloc _ _ _ HM3.out.wi.lt))
        have n1 := World.new_ne we _ p1
        have n2 := World.new_ne we _ p2
        have n3 := World.new_ne we _ q1
        obtain ⟨ls, hls⟩ : ∃ ls, Wt1 (-la) = ls := ⟨_, rfl⟩
        rw [hls] at hl0 hl1 hl2 hl3 hval
        have hll : ls.length ≤ 2199023255551 := by rw [← hls]; have := HM3.out; have := HO.out.ri.wi.len (-la); have := HO.out.cp.1; have := HCl.out.2; omega
        have HVAL := hid (And.intro hval (And.intro hls (And.intro hwv2 hwv3)))
        clear hlG hval hls hwv2 hwv3
        go_cut [3] (fun s3 wx => s3 = .pointer (some ⟨we.heap.size, 0, none⟩) ∧ Hid (Below we.heap.size we wx) ∧ Hid (wx.heap[we.heap.size]? = some (.cells #[.slice al ls.length cl] 22 (0, 0))))
        case first =>
          go_region_held3 (fun y => y.cell? ⟨b1, 0, none⟩ = some (.pointer (some ⟨bx, 0, none⟩)) ∧ y.cell? ⟨b2, 0, none⟩ = some (.int .i64 (-la)) ∧ y.cell? ⟨bx, 1, none⟩ = some (.map (some bw))) (go_keep) (fail)
          all_goals
            go_wp2_with fail
            go_meet
            case rel => exact ⟨rfl, hid (box_below _ _).drew, hid (heap_alloc_new _ _)⟩
        case rest =>
          obtain ⟨rfl, HB4, HC4⟩ := hcut
          obtain ⟨hM4, hX4⟩ := HM3.out.var HB4.out (Nat.le_refl _) HC4.out
          have hg4 := tg_if tag2 we
          have hbA4 := HX3.out.1.keep (S := fun _ => False) (Below.touch HB4.out) (fun h => h) hg4
          have hbX4 := HX3.out.2.keep (S := fun _ => False) (Below.touch HB4.out) (fun h => h) hg4
          have hsz3 := HT3.out.size
          have hG4 := HG2.out.trans hg4 hsz3
          have hT4 : Touch (ST tag bx bw bk) w wc := HT3.out.st HG2.out (Below.touch HB4.out)
          obtain ⟨tag4, ht4⟩ : ∃ t, (fun g => if g < we.heap.size then tag2 g else RT.oth) = t := ⟨_, rfl⟩
          rw [ht4] at hM4 hX4 hbA4 hbX4 hG4
          obtain ⟨b3, hb3⟩ : ∃ b, we.heap.size = b := ⟨_, rfl⟩
          rw [hb3] at hX4 ⊢
          have HN3 : Hid (b1 ≠ b3 ∧ b2 ≠ b3) := hid ⟨by have := HX3.out.2.lt; omega, by have := HX3.out.1.lt; omega⟩
          clear p1 p2 q1 n1 n2 n3 hl0 hl1 hl2 hl3
          have p3 := hX4.cell
          have p3a := fun o => below_keeps (box_below wc o) _ _ p3
          have hs0 := slice_00 (al := al) (m := ls.length) (cl := cl)
          have HM4 := hid hM4
          have HX4 := hid (And.intro hX4 (And.intro hbA4 hbX4))
          have HT4 := hid (And.intro hT4 hG4)
          clear hM4 hX4 hg4 hbA4 hbX4 hG4 hT4 ht4 hb3 HM3 HX3 HT3 HG2 HB4 HC4 hsz3
          go_wp2_with fail
          have hBz : Below wc.heap.size wc (wc.alloc (.cells #[.slice al 0 0] 22)) := box_below _ _
          have hCz : (wc.alloc (.cells #[.slice al 0 0] 22)).heap[wc.heap.size]? = some (.cells #[.slice al 0 0] 22 (0, 0)) := heap_alloc_new _ _
          generalize wc.alloc (.cells #[.slice al 0 0] 22) = wz at hBz hCz ⊢
          obtain ⟨hM5, hX5⟩ := HM4.out.var hBz (Nat.le_refl _) hCz
          have hg5 := tg_if tag4 wc
          have hL5 := HX4.out.1.keep (S := fun _ => False) (Below.touch hBz) (fun h => h) hg5
          have hA5 := HX4.out.2.1.keep (S := fun _ => False) (Below.touch hBz) (fun h => h) hg5
          have hX15 := HX4.out.2.2.keep (S := fun _ => False) (Below.touch hBz) (fun h => h) hg5
          have hG5 := HT4.out.2.trans hg5 HT4.out.1.size
          have hT5 : Touch (ST tag bx bw bk) w wz := HT4.out.1.st HT4.out.2 (Below.touch hBz)
          obtain ⟨tag5, ht5⟩ : ∃ t, (fun g => if g < wc.heap.size then tag4 g else RT.oth) = t := ⟨_, rfl⟩
          rw [ht5] at hM5 hX5 hL5 hA5 hX15 hG5
          obtain ⟨b4, hb4⟩ : ∃ b, wc.heap.size = b := ⟨_, rfl⟩
          have hb4w : w.heap.size ≤ b4 := by rw [← hb4]; exact HT4.out.1.size
          rw [hb4] at hX5 ⊢
          have HN4 : Hid (b1 ≠ b4 ∧ b2 ≠ b4 ∧ b3 ≠ b4) := hid ⟨by have := HX4.out.2.2.lt; omega, by have := HX4.out.2.1.lt; omega, by have := HX4.out.1.lt; omega⟩
          have hRI := HO.out.ri
          have hen := hRI.enter (a := -la) (by rw [Int.neg_neg]; exact HLA.out.1)
          rw [HVAL.out.2.1] at hen
          have HRJ : Hid (RJ tag B w0 w bx bw bk b1 b2 b3 b4 vc C us K1 K0 n F A dn1 (-la) (.slice al ls.length cl) ls wz tag5 (.slice (some ⟨bt, ot, none⟩) K1.length ct1) C1 es1 Wt1 K1 (.slice al 0 0) [] 0) := hid ⟨hM5, hen, ⟨[], by simp⟩, HO.out.cp, hG5, hT5, hX15, hA5, hL5, hX5, ⟨al, 0, rfl, fun _ => rfl, .inl ⟨rfl, rfl⟩⟩, HVAL.out.1, HVAL.out.2.1, Nat.le_refl _, hb4w⟩
          clear hb4w p3 p3a hs0 hBz hCz hM5 hX5 hg5 hL5 hA5 hX15 hG5 hT5 ht5 hb4 hRI hen HM4 HX4 HT4
          go_loopw [46] (fun s46 wi => ∃ (tag' : Nat → RT) (vt' : Value) (C' : List (List Int)) (es' : List (Int × Value)) (Wt' : Int → List Nat) (K' : List Int) (kv : Value) (ks : List Nat) (j : Nat), s46 = .int .i64 j ∧ j ≤ ls.length ∧ Hid (RJ tag B w0 w bx bw bk b1 b2 b3 b4 vc C us K1 K0 n F A dn1 (-la) (.slice al ls.length cl) ls wi tag' vt' C' es' Wt' K' kv ks j)) (fun s46 _ => (ls.length - (intOf s46)).toNat)
          case atStart => exact ⟨_, _, _, _, _, _, _, _, 0, rfl, by omega, HRJ⟩
          case round =>
            obtain ⟨tag6, vt6, C6, es6, Wt6, K6, kv, ks, j, rfl, hjl, HJ⟩ := hrel
            by_cases hjt : j < ls.length
            · have hjt2 : (j : Int) < ls.length := by omega
              have hwj : IntKind.i64.wrap ((j : Int) + 1) = (j : Int) + 1 := IntWalk.i64_in _ (by omega)
              obtain ⟨i, hi⟩ : ∃ i, ls[j]? = some i := ⟨_, List.getElem?_eq_getElem hjt⟩
              have hdrop : ls.drop j = i :: ls.drop (j + 1) := by
                rw [List.drop_eq_getElem_cons hjt]
                congr 1
                rw [List.getElem?_eq_getElem hjt] at hi
                injection hi
              have hIL := HJ.out.il
              rw [hdrop] at hIL
              obtain ⟨c, hc, hca, -, -⟩ := hIL.here
              have hwr := HJ.out.rm.wr (-la)
              rw [HJ.out.lv, HJ.out.wl] at hwr
              obtain ⟨al', cl', e, hsl⟩ := hwr.slv
              injection e with e ee2 ee3
              subst e ee3
              obtain ⟨bl, ol, hal, hcl⟩ := hsl j (.int .i64 i) (by simp [nnts, hi])
              subst hal
              have HI := hid (And.intro hi (And.intro hdrop hc))
              have HIL := hid hIL
              have HCA := hid hca
              clear hi hdrop hc hIL hca hwr hsl
              go_wp2_with fail
              have hBj : Below wr.heap.size wr (((wr.alloc (.cells #[.int .i64 (j : Int)] 3)).alloc (.cells #[.int .i64 (i : Int)] 3)).alloc (.cells #[.int .i64 1] 3)) := by
                have h1 := box_below wr (.cells #[.int .i64 (j : Int)] 3)
                have h2 := below_al h1 h1.size (.cells #[.int .i64 (i : Int)] 3)
                exact below_al h2 h2.size (.cells #[.int .i64 1] 3)
              have hcN : (((wr.alloc (.cells #[.int .i64 (j : Int)] 3)).alloc (.cells #[.int .i64 (i : Int)] 3)).alloc (.cells #[.int .i64 1] 3)).heap[wr.heap.size]? = some (.cells #[.int .i64 (j : Int)] 3 (0, 0)) := (Below.heap_alloc _ _ _ (by simp only [size_al]; omega)).trans (blk_old2 _ _ _)
              have hcI : (((wr.alloc (.cells #[.int .i64 (j : Int)] 3)).alloc (.cells #[.int .i64 (i : Int)] 3)).alloc (.cells #[.int .i64 1] 3)).heap[wr.heap.size + 1]? = some (.cells #[.int .i64 (i : Int)] 3 (0, 0)) := (Below.heap_alloc _ _ _ (by simp only [size_al]; omega)).trans (blk_new2 _ _ _)
              have hcJ : (((wr.alloc (.cells #[.int .i64 (j : Int)] 3)).alloc (.cells #[.int .i64 (i : Int)] 3)).alloc (.cells #[.int .i64 1] 3)).heap[wr.heap.size + 1 + 1]? = some (.cells #[.int .i64 1] 3 (0, 0)) := by
                have := heap_alloc_new ((wr.alloc (.cells #[.int .i64 (j : Int)] 3)).alloc (.cells #[.int .i64 (i : Int)] 3)) (.cells #[.int .i64 1] 3)
                simpa only [size_al] using this
              generalize (((wr.alloc (.cells #[.int .i64 (j : Int)] 3)).alloc (.cells #[.int .i64 (i : Int)] 3)).alloc (.cells #[.int .i64 1] 3)) = wj at hBj hcN hcI hcJ ⊢
              obtain ⟨hM7, hxN⟩ := HJ.out.rm.var hBj (Nat.le_refl _) hcN
              have hxI := (HJ.out.rm.var hBj (by omega) hcI).2
              have hxJ := (HJ.out.rm.var hBj (by omega) hcJ).2
              have hg7 := tg_if tag6 wr
              have hx1 := HJ.out.bX.keep (S := fun _ => False) (Below.touch hBj) (fun h => h) hg7
              have hx2 := HJ.out.bA.keep (S := fun _ => False) (Below.touch hBj) (fun h => h) hg7
              have hx3 := HJ.out.bL.keep (S := fun _ => False) (Below.touch hBj) (fun h => h) hg7
              have hx4 := HJ.out.bK.keep (S := fun _ => False) (Below.touch hBj) (fun h => h) hg7
              have hwk7 : WT .kep (fun g => if g < wr.heap.size then tag6 g else .oth) B wj kv ks := HJ.out.wk.frame fun g cur hg _ => ⟨hBj.block g (Array.getElem?_eq_some_iff.1 hg).1, if_pos (Array.getElem?_eq_some_iff.1 hg).1⟩
              have hG7 := HJ.out.tg.trans hg7 HJ.out.tt.size
              have hT7 : Touch (ST tag bx bw bk) w wj := HJ.out.tt.st HJ.out.tg (Below.touch hBj)
              obtain ⟨tag7, ht7⟩ : ∃ t, (fun g => if g < wr.heap.size then tag6 g else RT.oth) = t := ⟨_, rfl⟩
              rw [ht7] at hM7 hxN hxI hxJ hx1 hx2 hx3 hx4 hwk7 hG7
              have hbne : b1 ≠ wr.heap.size + 1 + 1 ∧ b2 ≠ wr.heap.size + 1 + 1 ∧ b3 ≠ wr.heap.size + 1 + 1 ∧ b4 ≠ wr.heap.size + 1 + 1 := by
                have h1 := HJ.out.bX.lt
                have h2 := HJ.out.bA.lt
                have h3 := HJ.out.bL.lt
                have h4 := HJ.out.bK.lt
                omega
              obtain ⟨bN, hbN⟩ : ∃ b, wr.heap.size = b := ⟨_, rfl⟩
              have HBW : Hid (w.heap.size ≤ bN) := hid (by rw [← hbN]; exact HJ.out.tt.size)
              rw [hbN] at hxN hxI hxJ hbne ⊢
              have HX7 := hid (And.intro hx1 (And.intro hx2 (And.intro hx3 (And.intro hx4 (And.intro hxN (And.intro hxI hxJ))))))
              have HM7 := hid (And.intro hM7 (And.intro hwk7 (And.intro hG7 hT7)))
              have HBN := hid hbne
              have hcm := HIL.out.wi.cls c (List.mem_of_getElem? HI.out.2.2)
              obtain ⟨x0, y0, hx0, hy0⟩ := two_get hcm.1
              have hxy : x0 ≠ y0 := fun e => by
                have := nodup_get hcm.2.1 hx0 (by rw [e]; exact hy0)
                omega
              obtain ⟨av, cv, hvc⟩ := own_lenV' hM7.clr
              obtain ⟨g, of, cap, cur, e1, e2, e3, e4, e5⟩ := hM7.cls i c HI.out.2.2
              have hsv := hM7.clr
              rw [hvc] at hsv
              obtain ⟨bv, ov, hav, hcu⟩ := own_slv hsv i _ e1
              subst hav
              have pc := hM7.cells.1
              rw [hvc] at pc
              have p1 := hx1.cell
              have p2 := hx2.cell
              have pI := hxI.cell
              have pJ := hxJ.cell
              have fJ : wj.frozen? ⟨bN + 1 + 1, 0, none⟩ = false := frozen_of_row _ _ _ _ _ hxJ.blk
              have px : wj.cell? ⟨g, of, none⟩ = some (.int .i64 x0) := hM7.lit HI.out.2.2 e1 (j := 0) hx0
              have hil : (i : Int) < C6.length := by have := (List.getElem?_eq_some_iff.1 HI.out.2.2).1; omega
              have hcl0 : (0 : Int) < c.length := by have := hcm.1; omega
              have HCM := hid (And.intro hcm (And.intro hx0 (And.intro hy0 hxy)))
              clear hBj hcN hcI hcJ hM7 hxN hxI hxJ hg7 hx1 hx2 hx3 hx4 hwk7 hG7 hT7 ht7 hbne hcm hx0 hy0 hxy e1 e2 e3 e4 e5 hsv hcl
              have HCALL : Hid (∀ (k : Nat) (o : Int) (wk : World), ((k = 0 ∧ c[0]? = some (-la) ∧ c[1]? = some o) ∨ (k = 1 ∧ c[0]? = some o ∧ c[1]? = some (-la))) → Touch (fun q => q = bN + 1 + 1) wj wk → wk.heap[bN + 1 + 1]? = some (.cells #[.int .i64 (k : Int)] 3 (0, 0)) →
                  Calls Try.prog 104 #[.pointer (some ⟨b4, 0, none⟩), .pointer (some ⟨b3, 0, none⟩), .pointer (some ⟨bN, 0, none⟩), .pointer (some ⟨b1, 0, none⟩), .pointer (some ⟨b2, 0, none⟩), .pointer (some ⟨bN + 1, 0, none⟩), .pointer (some ⟨bN + 1 + 1, 0, none⟩)] wk fun e w8 =>
                    (e = .returned (.tuple #[]) ∧ ∃ (tag' : Nat → RT) (vt' : Value) (C' : List (List Int)) (es' : List (Int × Value)) (Wt' : Int → List Nat) (K' : List Int) (kv : Value) (ks : List Nat), RJ tag B w0 w bx bw bk b1 b2 b3 b4 vc C us K1 K0 n F A dn1 (-la) (.slice (some ⟨bl, ol, none⟩) ls.length cl) ls w8 tag' vt' C' es' Wt' K' kv ks (j + 1)) ∨ (e = .panicked failP ∧ Q (.panicked failP) w8)) := hid fun k o wk hko hTk hbk => by
                obtain ⟨hx1, hx2, hx3, hx4, hxN, hxI, hxJ⟩ := HX7.out
                obtain ⟨hM7, hwk7, hG7, hT7⟩ := HM7.out
                have hnJ : ∀ q, q = bN + 1 + 1 → tag7 q = .oth := fun q hq => by rw [hq]; exact hxJ.tg
                have hMk : RM tag7 B w0 wk bx bw bk vc vt6 (dn1 + 1) C6 us es6 Wt6 K6 := hM7.oth (hTk.mono fun q _ hq => by rw [hq]; exact ⟨hxJ.le, hxJ.nx, hxJ.nw, hxJ.nk, .inl hxJ.tg⟩) fun _ _ => rfl
                have hwkk : WT .kep tag7 B wk kv ks := hwk7.frame fun g cur hg hk => ⟨hTk.block g (Array.getElem?_eq_some_iff.1 hg).1 (fun e => by rw [e, hxJ.tg] at hk; cases hk), rfl⟩
                have hk1 := hx1.keep hTk HBN.out.1 (TG.refl _ _)
                have hk2 := hx2.keep hTk HBN.out.2.1 (TG.refl _ _)
                have hk3 := hx3.keep hTk HBN.out.2.2.1 (TG.refl _ _)
                have hk4 := hx4.keep hTk HBN.out.2.2.2 (TG.refl _ _)
                have hkN := hxN.keep hTk (by omega) (TG.refl _ _)
                have hkI := hxI.keep hTk (by omega) (TG.refl _ _)
                have hkJ : Bx tag7 B bx bw bk wk (bN + 1 + 1) 3 (.int .i64 (k : Int)) := ⟨hbk, hxJ.tg, hxJ.le, hxJ.nx, hxJ.nw, hxJ.nk⟩
                obtain ⟨hcm, hx0, hy0, hxy⟩ := HCM.out
                have hnn := HLE.out.2.2.2
                have hK6 : K6.length ≤ n := lits_le HIL.out.nod HIL.out.cons HIL.out.kok
                have hCl : C6.length ≤ 2199023255551 := by rw [HJ.out.cp.1]; exact HCl.out.2
                have hao : -la ≠ o := fun e => by
                  rcases hko with ⟨-, h0, h1⟩ | ⟨-, h0, h1⟩
                  · have := nodup_get hcm.2.1 h0 (by rw [e]; exact h1)
                    omega
                  · have := nodup_get hcm.2.1 h1 (by rw [e]; exact h0)
                    omega
                have hcw : ∀ b, (c[0]? = some b ∨ c[1]? = some b) ↔ (b = -la ∨ b = o) := fun b => by
                  rcases hko with ⟨-, h0, h1⟩ | ⟨-, h0, h1⟩
                  · rw [h0, h1]
                    constructor
                    · rintro (q | q)
                      · injection q with q; exact .inl q.symm
                      · injection q with q; exact .inr q.symm
                    · rintro (q | q)
                      · exact .inl (by rw [q])
                      · exact .inr (by rw [q])
                  · rw [h0, h1]
                    constructor
                    · rintro (q | q)
                      · injection q with q; exact .inr q.symm
                      · injection q with q; exact .inl q.symm
                    · rintro (q | q)
                      · exact .inr (by rw [q])
                      · exact .inl (by rw [q])
                refine (rup_run1 tag7 B w0 wk bx bw bk vc vt6 (dn1 + 1) C6 us es6 Wt6 K6 i c (-la) o k j b4 b3 bN b1 b2 (bN + 1) (bN + 1 + 1) kv ks hMk HI.out.2.2 hcm.1 (by have := lits_le hcm.2.1 hcm.2.2.2 hcm.2.2.1; omega) hcm.2.1 (fun x hx => by have := hcm.2.2.1 x hx; have := this.2; omega) hko HIL.out.ak (by omega) (fun b => ?_) hwkk (by rw [HJ.out.wl]; exact hjt) (by have := HJ.out.kl; omega) hk4 (by rw [HJ.out.lv]; exact hk3) hkN hk1 hk2 hkI hkJ).mono ?_
                · by_cases hb : b = -la
                  · rw [hb, HJ.out.wl]; omega
                  · have := HIL.out.wi.len b
                    rw [effW_ne _ _ hb] at this
                    omega
                rintro e w8 (⟨tag', vt', d, es', Wt', K', kv', ks', e0, rfl, hM, htg, hT, hsm, hlv, hout, hwk8, hbk8, hks⟩ | ⟨tag', vt', d, es', rfl, hM, htg, hT, hsm, hout⟩)
                · obtain ⟨l1, l2, R, hKR⟩ := HIL.out.looked HI.out.2.2 hsm hcw hao hout
                  have hil8 : IL n F A (C6.set i d) Wt' K' (K1.take dn1) K0 (-la) ks' (ls.drop (j + 1)) := by
                    rcases hks with ⟨h1, h2⟩ | ⟨h1, h2⟩
                    · rw [h2]; exact l1 h1
                    · rw [h2]; exact l2 h1
                  have hTk2 : Touch (ST tag bx bw bk) w wk := hT7.trans' hTk fun q hq e => by have := HBW.out; omega
                  have hT8 : Touch (ST tag bx bw bk) w w8 := hTk2.trans' hT fun q hq hs => hs.elim (fun h => h.back hG7 hq) (fun e => by have := HJ.out.b4w; omega)
                  have hno : ∀ b t v, Bx tag7 B bx bw bk wk b t v → b ≠ b4 → Bx tag' B bx bw bk w8 b t v := fun b t v hb hne => hb.keep hT (fun q => q.elim hb.not hne) (TG.of_eq htg)
                  refine .inl ⟨rfl, tag', vt', _, es', Wt', K', kv', ks', hM, hil8, ?_, HJ.out.cp.trans (CP.set HIL.out.wi.nodup HI.out.2.2 hsm), hG7.trans (TG.of_eq htg) hTk2.size, hT8, hno _ _ _ hk1 HN4.out.1, hno _ _ _ hk2 HN4.out.2.1, hno _ _ _ hk3 HN4.out.2.2, ⟨hbk8, (htg b4 hk4.lt).trans hk4.tg, hk4.le, hk4.nx, hk4.nw, hk4.nk⟩, hwk8, hlv.trans HJ.out.lv, hout.stay.trans HJ.out.wl, ?_, HJ.out.b4w⟩
                  · obtain ⟨R0, hR0⟩ := HJ.out.pre
                    exact ⟨R0 ++ R, by rw [hKR, hR0, List.append_assoc]⟩
                  · have := HJ.out.kl
                    rcases hks with ⟨-, h2⟩ | ⟨-, h2⟩
                    · rw [h2]; omega
                    · rw [h2, List.length_append]; simp; omega
                · have hTk2 : Touch (ST tag bx bw bk) w wk := hT7.trans' hTk fun q hq e => by have := HBW.out; omega
                  have hT8 : Touch (ST tag bx bw bk) w w8 := hTk2.trans' hT fun q hq hs => hs.back hG7 hq
                  obtain ⟨f1, f2, f3, f4⟩ := hout.failed
                  obtain ⟨g1, g2, g3⟩ := HIL.out.fail HI.out.2.2 hsm f3 f4 hcw f2 f1
                  refine .inr ⟨rfl, ?_⟩
                  rw [← HQ.out]
                  have hdr : ks ++ (Wt6 (-la)).drop j = ks ++ i :: ls.drop (j + 1) := by rw [HJ.out.wl, HI.out.2.1]
                  rw [hdr] at hM
                  obtain ⟨R0, hR0⟩ := HJ.out.pre
                  obtain ⟨R1, hR1⟩ := HO.out.pre
                  exact ⟨tag', vt', _, _, es', _, K6, hM, ⟨R1 ++ R0, by rw [hR0, hR1, List.append_assoc]⟩, HJ.out.cp.trans (CP.set HIL.out.wi.nodup HI.out.2.2 hsm), hG7.trans htg hTk2.size, hT8, .inr ⟨rfl, g1, g2, g3, HIL.out.cons, HIL.out.kok⟩⟩
              have HJB := hid HX7.out.2.2.2.2.2.2.blk
              clear HX7 HM7
              by_cases hxa : x0 = -la
              · have hdx : (x0 == -la) = true := by rw [hxa]; exact beq_self_eq_true _
                have HXA := hid hxa
                clear hxa
                go_wp2_with fail
                go_quiet (fail)
                go_wp2_with fail
                refine (HCALL.out 0 y0 _ (.inl ⟨rfl, by rw [← HXA.out]; exact HCM.out.2.1, HCM.out.2.2.1⟩) (((Touch.refl (fun q => q = bN + 1 + 1) wj).drewN _).setCell (p := ⟨bN + 1 + 1, 0, none⟩) rfl _) (setCell_block (w := wj.drewN nq) (xs := [.int .i64 1]) (o := 0) (.int .i64 0) HJB.out)).mono ?_
                rintro e w8 (⟨rfl, tag8, vt8, C8, es8, Wt8, K8, kv8, ks8, hRJ⟩ | ⟨rfl, hq⟩)
                · have HRJ8 := hid hRJ
                  clear hRJ pJ fJ pI p1 p2 px pc hcu
                  go_wp2_with fail
                  go_roundw
                  case rel => exact ⟨tag8, vt8, C8, es8, Wt8, K8, kv8, ks8, j + 1, by simp, by omega, HRJ8⟩
                  case measure => simp [intOf]; omega
                · have HQ8 := hid hq
                  clear hq pJ fJ pI p1 p2 px pc hcu
                  go_wp2_with fail
                  exact ⟨rfl, HQ8.out⟩
              · have hdx : (x0 == -la) = false := beq_eq_false_iff_ne.2 hxa
                have HXA := hid hxa
                clear hxa
                go_wp2_with fail
                go_quiet (fail)
                go_wp2_with fail
                refine (HCALL.out 1 x0 _ (.inr ⟨rfl, HCM.out.2.1, HCA.out.elim (fun q => by rw [HCM.out.2.1] at q; injection q with q; exact absurd q HXA.out) id⟩) ((Touch.refl (fun q => q = bN + 1 + 1) wj).drewN _) HJB.out).mono ?_
                rintro e w8 (⟨rfl, tag8, vt8, C8, es8, Wt8, K8, kv8, ks8, hRJ⟩ | ⟨rfl, hq⟩)
                · have HRJ8 := hid hRJ
                  clear hRJ pJ fJ pI p1 p2 px pc hcu
                  go_wp2_with fail
                  go_roundw
                  case rel => exact ⟨tag8, vt8, C8, es8, Wt8, K8, kv8, ks8, j + 1, by simp, by omega, HRJ8⟩
                  case measure => simp [intOf]; omega
                · have HQ8 := hid hq
                  clear hq pJ fJ pI p1 p2 px pc hcu
                  go_wp2_with fail
                  exact ⟨rfl, HQ8.out⟩
            · have hje : j = ls.length := by omega
              subst hje
              have hjt2 : ¬ ((ls.length : Nat) : Int) < ls.length := by omega
              have p1 := HJ.out.bX.cell
              have p2 := HJ.out.bA.cell
              have p4 := HJ.out.bK.cell
              have q1 := HJ.out.rm.cells.2.1
              obtain ⟨w3, hup, him, ht3, hz3⟩ := im_update (P := Try.prog) Try.underlying99 Try.underlying3 (w := wr.drew) (HJ.out.rm.wi.frame rfl) (-la) kv
              have k1 := ht3.cell (p := ⟨b1, 0, none⟩) p1 HJ.out.bX.nw
              have k2 := ht3.cell (p := ⟨b2, 0, none⟩) p2 HJ.out.bA.nw
              have k4 := ht3.cell (p := ⟨b4, 0, none⟩) p4 HJ.out.bK.nw
              have k5 := ht3.cell (p := ⟨bx, 1, none⟩) q1 HJ.out.rm.apart.1
              obtain ⟨ak, ck, e1, e2, e3⟩ := HJ.out.wk
              obtain ⟨hM9, hT9⟩ := HJ.out.rm.rew (a := -la) (w2 := wr.drew) (w3 := w3) (v' := kv) (L := ks) ((Touch.refl _ _).drew) ⟨ak, ck, e1, e2, e3.imp_right fun q => ⟨own_frame0 q.1 fun _ _ => rfl, fun k hk _ => q.2 k hk⟩⟩ him ht3
              have hil := HJ.out.il
              rw [List.drop_eq_nil_of_le (Nat.le_refl _)] at hil
              have hri := hil.leave (d := dn1) (by rw [Int.neg_neg]; exact HLA.out.1) HJ.out.pre
              have HRO9 : Hid (RO tag B w0 w bx bw bk b1 vc C us K K0 n F A w3 (tagR tag6 wr (-la) kv) vt6 (dn1 + 1) C6 (aput es6 (-la) kv) (effW Wt6 (-la) ks) K6) := hid ⟨hM9, hri, by
                obtain ⟨R0, hR0⟩ := HJ.out.pre
                obtain ⟨R1, hR1⟩ := HO.out.pre
                exact ⟨R1 ++ R0, by rw [hR0, hR1, List.append_assoc]⟩, HJ.out.cp, HJ.out.tg.trans (tagR_tg _ _ _ _) HJ.out.tt.size, HJ.out.tt.st HJ.out.tg hT9, HJ.out.bX.keep hT9 HJ.out.bX.not (tagR_tg _ _ _ _)⟩
              clear him ht3 hz3 e1 e2 e3 hM9 hT9 hil hri
              go_wp2_with fail
              go_region_held3 (fun y => y.cell? ⟨b1, 0, none⟩ = some (.pointer (some ⟨bx, 0, none⟩)) ∧ y.cell? ⟨b2, 0, none⟩ = some (.int .i64 (-la)) ∧ y.cell? ⟨b4, 0, none⟩ = some kv ∧ y.cell? ⟨bx, 1, none⟩ = some (.map (some bw))) (first | exact ⟨‹_›, ‹_›, ‹_›, ‹_›⟩ | go_keep) (fail)
              all_goals
                go_wp2_with fail
                go_roundw
                case rel => exact ⟨_, _, _, _, _, _, _, HRO9⟩
                case measure =>
                  have e1 := HRO9.out.rm.cells.2.2.2.2
                  have e2 := HO.out.rm.cells.2.2.2.2
                  have hb := HLE.out
                  rw [e1, e2]
                  simp [intOf]
                  omega
    · have hlt2 : ¬ (dn1 : Int) < K1.length := by omega
      have hde : dn1 = K1.length := by omega
      have HF : Hid (∀ nq, Q (.returned (.tuple #[])) (wr.drewN nq)) := hid fun nq => by
        rw [← HQ.out]
        exact ⟨tag1, _, dn1, C1, es1, Wt1, K1, HO.out.rm.grow (below_dr (Below.refl _ _) _) (fun _ _ => rfl), HO.out.pre, HO.out.cp, HO.out.tg, HO.out.tt.drewN _, .inl ⟨rfl, hde, HO.out.ri⟩⟩
      clear hde
      go_wp2_with fail
      go_quiet (fail)
      go_wp2_with fail
      go_end0
      exact HF.out _

end Go.Proofs.Ytfofabbnbmieoaa.Ord

/- rup's base: a clause more in memory. -/
namespace Go.Proofs.Ytfofabbnbmieoaa.Ord
open Go.RowKit Go.Conc

section
variable {tag : Nat → RT} {B : Nat} {w0 w : World} {bx bw bk : Nat} {vc vt : Value} {dn : Nat} {C : List (List Int)} {us : List Value} {es : List (Int × Value)} {Wt : Int → List Nat} {K : List Int}

/-- Other tags for blocks that hold nothing of the base. -/
theorem RM.retag (h : RM tag B w0 w bx bw bk vc vt dn C us es Wt K) {tag' : Nat → RT} (ht : ∀ g, g < w.heap.size → tag g ≠ .oth → tag' g = tag g) : RM tag' B w0 w bx bw bk vc vt dn C us es Wt K :=
  ⟨h.bel, h.le, h.bxB, h.bwB, h.bkB, h.ne, h.blk, h.clr, fun g hg => (ht g (h.clr.lt g hg).2 (by rw [h.clt g hg]; nofun)).trans (h.clt g hg), h.cls.frame fun g i hg hi => ⟨rfl, ht g hg (by rw [hi]; nofun)⟩, h.tr, fun g hg => (ht g (h.tr.lt g hg).2 (by rw [h.trt g hg]; nofun)).trans (h.trt g hg), h.wi, fun a => (h.wr a).frame fun g cur hg hw => ⟨rfl, ht g (Array.getElem?_eq_some_iff.1 hg).1 (by rw [hw]; nofun)⟩, h.kn⟩

theorem setCell0 {w : World} {b : Nat} {e : TypeId} {x0 x1 x2 x3 x4 y : Value} (h : w.heap[b]? = some (.cells #[x0, x1, x2, x3, x4] e (0, 0))) : (w.setCell ⟨b, 0, none⟩ y).heap[b]? = some (.cells #[y, x1, x2, x3, x4] e (0, 0)) := by
  have h1 := setCell_block (o := 0) y (xs := [x0, x1, x2, x3, x4]) h
  exact h1

/-- A clause is appended. -/
theorem RM.pushC (h : RM tag B w0 w bx bw bk vc vt dn C us es Wt K) {l : List Int} {g o cap : Nat} {cur : Array Value} (htg : tag g = .cls C.length) (hgB : B ≤ g) (hb : w.heap[g]? = some (.cells cur 3 (0, 0))) (hcur : ∀ (j : Nat) (x : Int), l[j]? = some x → cur[o + j]? = some (.int .i64 x))
    {obj : Obj} {w6 : World} {a6 : Option Addr} {c6 : Nat} (hg6 : (w.alloc obj).grownBy w6 vc.ownBlock) (ho6 : w6.ownsRow B 22 1 (.slice a6 (C.length + 1) c6) (C.length + 1) (us ++ [.slice (some ⟨g, o, none⟩) l.length cap])) (ha6 : (Value.slice a6 (C.length + 1) c6).ownBlock = vc.ownBlock ∨ (Value.slice a6 (C.length + 1) c6).ownBlock = some (w.alloc obj).heap.size) :
    RM (fun k => if k < w.heap.size then tag k else .clr) B w0 (w6.setCell ⟨bx, 0, none⟩ (.slice a6 (C.length + 1) c6)) bx bw bk (.slice a6 (C.length + 1) c6) vt dn (C ++ [l]) (us ++ [.slice (some ⟨g, o, none⟩) l.length cap]) es Wt K ∧
      Touch (fun k => k = bx ∨ vc.ownBlock = some k) w (w6.setCell ⟨bx, 0, none⟩ (.slice a6 (C.length + 1) c6)) := by
  obtain ⟨a1, a2, a3, a4, a5, a6', a7, a8, a9⟩ := h.apart
  have hT6 : Touch (fun k => k = bx ∨ vc.ownBlock = some k) w w6 := ((Touch.refl (fun k => k = bx ∨ vc.ownBlock = some k) w).alloc obj).grown hg6 fun k hk => .inl (.inr hk)
  have hT : Touch (fun k => k = bx ∨ vc.ownBlock = some k) w (w6.setCell ⟨bx, 0, none⟩ (.slice a6 (C.length + 1) c6)) := hT6.setCell (p := ⟨bx, 0, none⟩) (.inl rfl) _
  have hbl := (Array.getElem?_eq_some_iff.1 h.blk).1
  have hb6 : w6.heap[bx]? = _ := (hg6.block bx (by simp only [size_al]; omega) (fun e => a3 e.symm)).trans ((Below.heap_alloc _ _ _ hbl).trans h.blk)
  have hk : ∀ k, k < w.heap.size → k ≠ bx → vc.ownBlock ≠ some k → (w6.setCell ⟨bx, 0, none⟩ (.slice a6 (C.length + 1) c6)).heap[k]? = w.heap[k]? := fun k hk h1 h2 => hT.block k hk fun q => q.elim h1 h2
  have hlow : ∀ k, (k = bx ∨ vc.ownBlock = some k) → B ≤ k := by
    rintro k (e | e)
    · rw [e]; exact h.bxB
    · exact (h.clr.lt k e).1
  have hsz : w.heap.size ≤ w6.heap.size := hT6.size
  refine ⟨⟨h.bel.trans (hT.below h.le hlow), Nat.le_trans h.le hT.size, h.bxB, h.bwB, h.bkB, h.ne, setCell0 hb6, ?_, fun k hk => ?_, fun t c hc => ?_, own_frame0 h.tr fun k hk' => hk k (h.tr.lt k hk').2 (fun e => a6' (e ▸ hk')) (fun e => a9 k e hk'), fun k hk' => (if_pos (h.tr.lt k hk').2).trans (h.trt k hk'), h.wi.frame (hk bw h.wi.lt (fun e => a1 e.symm) a4), fun a => (h.wr a).frame fun k cu hg hw => ?_, h.kn.frame (hk bk h.kn.lt (fun e => a2 e.symm) a5)⟩, hT⟩
  · have e : (C ++ [l]).length = C.length + 1 := by simp
    rw [e]
    exact own_setO ho6 hb6 (by decide) _ _
  · show (if k < w.heap.size then tag k else RT.clr) = RT.clr
    by_cases hkl : k < w.heap.size
    · rw [if_pos hkl]
      rcases ha6 with e | e
      · exact h.clt k (e ▸ hk)
      · rw [e] at hk
        injection hk with hk
        simp only [size_al] at hk
        omega
    · rw [if_neg hkl]
  · have hul : us.length = C.length := by have := h.clr.1; simpa using this
    by_cases q : t < C.length
    · rw [List.getElem?_append_left q] at hc
      obtain ⟨g2, o2, cap2, cur2, e1, e2, e3, e4, e5⟩ := h.cls t c hc
      obtain ⟨q1, q2, q3, q4⟩ := h.intb e4
      exact ⟨g2, o2, cap2, cur2, by rw [List.getElem?_append_left (by omega)]; exact e1, (if_pos (Array.getElem?_eq_some_iff.1 e4).1).trans e2, e3, (hk g2 (Array.getElem?_eq_some_iff.1 e4).1 q1 q4).trans e4, e5⟩
    · rw [List.getElem?_append_right (by omega)] at hc
      have h2 := (List.getElem?_eq_some_iff.1 hc).1
      simp at h2
      have h3 : t = C.length := by omega
      subst h3
      simp at hc
      subst hc
      obtain ⟨q1, q2, q3, q4⟩ := h.intb hb
      exact ⟨g, o, cap, cur, by rw [List.getElem?_append_right (by omega)]; simp [hul], (if_pos (Array.getElem?_eq_some_iff.1 hb).1).trans htg, hgB, (hk g (Array.getElem?_eq_some_iff.1 hb).1 q1 q4).trans hb, hcur⟩
  · obtain ⟨q1, q2, q3, q4⟩ := h.intb hg
    exact ⟨hk k (Array.getElem?_eq_some_iff.1 hg).1 q1 q4, if_pos (Array.getElem?_eq_some_iff.1 hg).1⟩

end

end Go.Proofs.Ytfofabbnbmieoaa.Ord

/- The contract of rup's add. -/
namespace Go.Proofs.Ytfofabbnbmieoaa.Ord
open Go.RowKit Go.Conc

attribute [local go_sem ↓] Go.wp_at_zero Go.wp_at_succ
attribute [local go_sem ↓ high] app_mark

/-- What add leaves. -/
def addR (tag : Nat → RT) (B : Nat) (w0 w : World) (bx bw bk : Nat) (C : List (List Int)) (n : Nat) (F : List (List Int)) (c : List Int) (e : Ending) (w' : World) : Prop :=
  (e = .returned (.tuple #[]) ∧ ∃ (tag' : Nat → RT) (vc' vt' : Value) (C' : List (List Int)) (us' : List Value) (es' : List (Int × Value)) (Wt' : Int → List Nat) (K' : List Int), RM tag' B w0 w' bx bw bk vc' vt' K'.length C' us' es' Wt' K' ∧ Top n (F ++ [c]) C' Wt' K' ∧ TG tag tag' w ∧ Touch (ST tag bx bw bk) w w' ∧ C'.length ≤ C.length + 1) ∨
  ((e = .panicked [{ v := failV, recovered := false }] ∨ e = .panicked failP) ∧ Bad (F ++ [c]) [] ∧ Touch (ST tag bx bw bk) w w')

theorem All.cp {F C C' : List (List Int)} {K K' : List Int} (h : All F C K) (hc : CP C C') (hK : ∀ x ∈ K, x ∈ K') : All F C' K' :=
  h.mono (fun d hd => by
    obtain ⟨i, hi⟩ := List.mem_iff_getElem?.1 hd
    obtain ⟨e, he, hs⟩ := hc.2 i d hi
    exact ⟨e, List.mem_of_getElem? he, hs.2.2⟩) hK

theorem kes_look {w : World} {bk : Nat} {K : List Int} (h : IM w bk (kes K)) (x : Int) : (Instr.lookup 100 (.map (some bk)) (.int .i64 x) false).run Try.prog w = .ok (.bool (decide (x ∈ K))) w := by
  rw [im_lookup (P := Try.prog) Try.underlying100 Try.underlying3 (info_zero_bool w) h x, kes_get]

/-- A clause that is not in the base yet, in a block of its own. -/
structure LM (w : World) (g of : Nat) (l : List Int) : Prop where
  blk : ∃ cur, w.heap[g]? = some (.cells cur 3 (0, 0)) ∧ ∀ (j : Nat) (x : Int), l[j]? = some x → cur[of + j]? = some (.int .i64 x)

theorem LM.cell {w : World} {g of : Nat} {l : List Int} (h : LM w g of l) {j : Nat} {x : Int} (hx : l[j]? = some x) : w.cell? ⟨g, of + j, none⟩ = some (.int .i64 x) := by
  obtain ⟨cur, h1, h2⟩ := h.blk
  have := h2 j x hx
  simp [World.cell?, h1, this]

theorem LM.froz {w : World} {g of : Nat} {l : List Int} (h : LM w g of l) (q : Nat) : w.frozen? ⟨g, q, none⟩ = false := by
  obtain ⟨cur, h1, h2⟩ := h.blk
  exact frozen_of_row _ _ _ _ _ h1

theorem LM.keep {w w' : World} {g of : Nat} {l : List Int} {S : Nat → Prop} (h : LM w g of l) (hT : Touch S w w') (hn : ¬ S g) : LM w' g of l := by
  obtain ⟨cur, h1, h2⟩ := h.blk
  exact ⟨cur, (hT.block g (Array.getElem?_eq_some_iff.1 h1).1 hn).trans h1, h2⟩

theorem LM.swap {w : World} {g of : Nat} {l : List Int} (h : LM w g of l) {j k : Nat} {x y : Int} (hj : l[j]? = some x) (hk : l[k]? = some y) : LM ((w.setCell ⟨g, of + j, none⟩ (.int .i64 y)).setCell ⟨g, of + k, none⟩ (.int .i64 x)) g of (swapL l j k) := by
  obtain ⟨cur, hb, hcur⟩ := h.blk
  have hjl := (List.getElem?_eq_some_iff.1 hj).1
  have hkl := (List.getElem?_eq_some_iff.1 hk).1
  have hb1 := heap_setCell_same w g (of + j) cur 3 (.int .i64 y) hb
  have hb2 := heap_setCell_same _ g (of + k) _ 3 (.int .i64 x) hb1
  have cj := (Array.getElem?_eq_some_iff.1 (hcur j x hj)).1
  have ck := (Array.getElem?_eq_some_iff.1 (hcur k y hk)).1
  refine ⟨_, hb2, fun t z hz => ?_⟩
  rw [swapL_get hjl hkl] at hz
  rw [Array.getElem?_setIfInBounds, Array.getElem?_setIfInBounds]
  by_cases h1 : t = k
  · subst h1
    rw [if_pos rfl, hj] at hz
    injection hz with hz
    subst hz
    rw [if_pos rfl, if_pos (by simpa using ck)]
  · rw [if_neg h1] at hz
    rw [if_neg (show ¬ of + k = of + t by omega)]
    by_cases h2 : t = j
    · subst h2
      rw [if_pos rfl, hk] at hz
      injection hz with hz
      subst hz
      rw [if_pos rfl, if_pos cj]
    · rw [if_neg h2] at hz
      rw [if_neg (show ¬ of + j = of + t by omega)]
      exact hcur t z hz

/-- While two literals that are not false are brought to the clause's head. -/
structure AI (tag : Nat → RT) (B : Nat) (w0 w : World) (bx bw bk : Nat) (vc vt : Value) (dn : Nat) (C : List (List Int)) (us : List Value) (es : List (Int × Value)) (Wt : Int → List Nat) (K : List Int) (g of : Nat) (ys : List Int) (w1 wr : World) (p j : Nat) (l : List Int) : Prop where
  oi : OI K ys l p j
  lm : LM wr g of l
  tt : Touch (fun k => k = g) w1 wr
  rm : RM tag B w0 wr bx bw bk vc vt dn C us es Wt K

section
variable {tag : Nat → RT} {B : Nat} {w0 w : World} {bx bw bk : Nat} {vc vt : Value} {dn : Nat} {C : List (List Int)} {us : List Value} {es : List (Int × Value)} {Wt : Int → List Nat} {K : List Int} {g of : Nat} {ys l : List Int} {w1 wr : World} {p j : Nat}

theorem AI.dr (h : AI tag B w0 w bx bw bk vc vt dn C us es Wt K g of ys w1 wr p j l) (m : Nat) : AI tag B w0 w bx bw bk vc vt dn C us es Wt K g of ys w1 (wr.drewN m) p j l :=
  ⟨h.oi, ⟨h.lm.blk⟩, h.tt.drewN _, h.rm.grow (below_dr (Below.refl _ _) _) fun _ _ => rfl⟩

theorem AI.take (h : AI tag B w0 w bx bw bk vc vt dn C us es Wt K g of ys w1 wr p j l) (hg : B ≤ g ∧ g ≠ bx ∧ g ≠ bw ∧ g ≠ bk ∧ tag g = .oth) {x y : Int} (hx : l[j]? = some x) (hy : l[p]? = some y) (hk : -x ∉ K) (hp : p < 2) :
    AI tag B w0 w bx bw bk vc vt dn C us es Wt K g of ys w1 ((wr.setCell ⟨g, of + p, none⟩ (.int .i64 x)).setCell ⟨g, of + j, none⟩ (.int .i64 y)) (p + 1) (j + 1) (swapL l p j) := by
  have hT : Touch (fun k => k = g) wr ((wr.setCell ⟨g, of + p, none⟩ (.int .i64 x)).setCell ⟨g, of + j, none⟩ (.int .i64 y)) := ((Touch.refl (fun k => k = g) wr).setCell (p := ⟨g, of + p, none⟩) rfl _).setCell (p := ⟨g, of + j, none⟩) rfl _
  exact ⟨h.oi.take hx hk hp, h.lm.swap hy hx, h.tt.trans hT, h.rm.oth (hT.mono fun k _ e => by rw [e]; exact ⟨hg.1, hg.2.1, hg.2.2.1, hg.2.2.2.1, .inl hg.2.2.2.2⟩) fun _ _ => rfl⟩

end

/-- What run leaves at the end of add. -/
theorem rrunR.add {tag tag7 : Nat → RT} {B : Nat} {w0 w w9 w' : World} {bx bw bk : Nat} {vc9 : Value} {C C9 : List (List Int)} {us9 : List Value} {K1 : List Int} {n : Nat} {F : List (List Int)} {c : List Int} {e : Ending} (h : rrunR tag7 B w0 w9 bx bw bk vc9 C9 us9 K1 [] n (F ++ [c]) [] e w') (hg : TG tag tag7 w) (hT : Touch (ST tag bx bw bk) w w9) (ha : All (F ++ [c]) C9 K1) (hl : C9.length ≤ C.length + 1) : addR tag B w0 w bx bw bk C n F c e w' := by
  obtain ⟨tag8, vt8, dn8, C8, es8, Wt8, K8, hM8, ⟨R, hpre⟩, hcp, htg, hT8, hor⟩ := h
  have hTT := hT.st hg hT8
  rcases hor with ⟨rfl, hd, hri⟩ | ⟨rfl, -, -, hb, -, -⟩
  · subst hd
    exact .inl ⟨rfl, tag8, vc9, vt8, C8, us9, es8, Wt8, K8, hM8, hri.top (ha.cp hcp fun x hx => by rw [hpre]; exact List.mem_append_left _ hx), hg.trans htg hT.size, hTT, by rw [hcp.1]; exact hl⟩
  · exact .inr ⟨.inr rfl, hb, hTT⟩

theorem rrunR.ends {tag : Nat → RT} {B : Nat} {w0 w w' : World} {bx bw bk : Nat} {vc : Value} {C : List (List Int)} {us : List Value} {K K0 : List Int} {n : Nat} {F : List (List Int)} {A : List Int} {e : Ending} (h : rrunR tag B w0 w bx bw bk vc C us K K0 n F A e w') : e = .returned (.tuple #[]) ∨ e = .panicked failP := by
  obtain ⟨tag8, vt8, dn8, C8, es8, Wt8, K8, hM8, hpre, hcp, htg, hT8, hor⟩ := h
  exact hor.imp (fun h => h.1) (fun h => h.1)

end Go.Proofs.Ytfofabbnbmieoaa.Ord
