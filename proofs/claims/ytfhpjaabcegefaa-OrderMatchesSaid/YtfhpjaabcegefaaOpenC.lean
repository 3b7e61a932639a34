/- What an argument that is a slice of calls is told of to the walk. -/
import Derived.Test.YtfhpjaabcegefaaOpen
import Derived.Test.YtfhpjaabcegefaaLawR
import Derived.Deep.Fields
namespace Go.Proofs.Ytfhpjaabcegefaa.Ord
open Go.ChangeShapes Go.WideShapes Go.ChangeAt Go.RowKit Go.Deep

theorem add_plain (b off n : Nat) : (⟨b, off, none⟩ : Addr).add n = ⟨b, off + n, none⟩ := by
  unfold Addr.add
  split
  · rename_i h; subst h; rfl
  · rfl

section
variable {P : Program} {W : World} {H : Type} {enc : TypeId × Value → H}

theorem trod_call {e : TypeId} {f0 f1 f2 : Field} {n : Nat} {held : Bool} {a : Addr} {cs : List Value} {y : DataW H × List MemPlace} (he : P.underlying e = some (.struct #[f0, f1, f2])) (hone : oneCellFields P #[f0, f1, f2] = true)
    (k0 : P.underlying f0.type = some (.int .u8)) (k1 : P.underlying f1.type = some (.int .i64)) (k2 : P.underlying f2.type = some (.int .i64))
    (hc : W.cells? 0 a 3 = some cs) (h : DataW.trod enc P W 0 (fun _ => true) held n e cs = some y) :
    ∃ q0 q1 q2, W.cell? (a.add 0) = some (.int .u8 q0) ∧ W.cell? (a.add 1) = some (.int .i64 q1) ∧ W.cell? (a.add 2) = some (.int .i64 q2) ∧ (Lit.int .u8 q0).wf = true ∧ (Lit.int .i64 q1).wf = true ∧ (Lit.int .i64 q2).wf = true := by
  obtain ⟨xs, m, _, hx, _, hlen, hg⟩ := DataW.trod_struct he h
  obtain ⟨_, hcl, hat⟩ := World.cells?_some hc
  obtain ⟨o0, s0⟩ := hone_of hone 0 f0 rfl
  obtain ⟨o1, s1⟩ := hone_of hone 1 f1 rfl
  obtain ⟨o2, s2⟩ := hone_of hone 2 f2 rfl
  match cs, hcl, xs, hlen with
  | [c0, c1, c2], _, [y0, y1, y2], _ =>
    have g0 := hg 0 f0 rfl
    have g1 := hg 1 f1 rfl
    have g2 := hg 2 f2 rfl
    rw [o0, s0] at g0
    rw [o1, s1] at g1
    rw [o2, s2] at g2
    obtain ⟨q0, e0, _, w0⟩ := DataW.trod_int k0 g0
    obtain ⟨q1, e1, _, w1⟩ := DataW.trod_int k1 g1
    obtain ⟨q2, e2, _, w2⟩ := DataW.trod_int k2 g2
    simp at e0 e1 e2
    subst e0 e1 e2
    exact ⟨q0, q1, q2, hat 0 (by omega), hat 1 (by omega), hat 2 (by omega), w0, w1, w2⟩

theorem arg_calls {r : Reach} {b0 : Nat} {t e : TypeId} {f0 f1 f2 : Field} {held : Bool} {v : Value} {d : DataW H} {p : List MemPlace} (ht : P.underlying t = some (.slice e)) (he : P.underlying e = some (.struct #[f0, f1, f2])) (hone : oneCellFields P #[f0, f1, f2] = true) (hC : P.cellsOf e = 3)
    (k0 : P.underlying f0.type = some (.int .u8)) (k1 : P.underlying f1.type = some (.int .i64)) (k2 : P.underlying f2.type = some (.int .i64))
    (hv : Value.okWide P W r b0 t v) (h : DataW.Trod enc P W 0 (fun _ => true) held t v d p) : ∃ cs, ArgC W v cs := by
  obtain ⟨a, l, c, rfl⟩ := okWide_slice ht hv
  obtain ⟨fuel, hf⟩ := h
  have hf : DataW.trod enc P W 0 (fun _ => true) held fuel t [.slice a l c] = some (d, p) := by simpa [Value.cells] using hf
  rcases open_slice ht hf with ⟨hcs, _⟩ | ⟨a', l', c', m, n, D, Pl, hcs, _, hl, hm, hmm, _, hx⟩
  · simp at hcs
    obtain ⟨rfl, rfl, rfl⟩ := hcs
    exact ⟨[], none, 0, rfl, Nat.le_refl _, by simp [maxLen], fun _ => rfl, by simp⟩
  · simp at hcs
    obtain ⟨rfl, rfl, rfl⟩ := hcs
    simp only [if_true] at hmm
    rw [hC] at hx
    have hr : ∀ i, ∃ q : Int × Int × Int, i < l → W.cell? ((a'.add (i * 3)).add 0) = some (.int .u8 q.1) ∧ W.cell? ((a'.add (i * 3)).add 1) = some (.int .i64 q.2.1) ∧ W.cell? ((a'.add (i * 3)).add 2) = some (.int .i64 q.2.2) ∧ (Lit.int .u8 q.1).wf = true ∧ (Lit.int .i64 q.2.1).wf = true ∧ (Lit.int .i64 q.2.2).wf = true := fun i => by
      by_cases hi : i < l
      · obtain ⟨cs', hc, ht'⟩ := hx i (by omega)
        obtain ⟨q0, q1, q2, hq⟩ := trod_call he hone k0 k1 k2 hc ht'
        exact ⟨(q0, q1, q2), fun _ => hq⟩
      · exact ⟨(0, 0, 0), fun h => (hi h).elim⟩
    let X := fun i => Classical.choose (hr i)
    have hX := fun i => Classical.choose_spec (hr i)
    refine ⟨(List.range l).map X, some a', c, by simp, by simpa using hl, hm, nofun, fun j q hj => ?_⟩
    simp only [List.getElem?_map, Option.map_eq_some_iff] at hj
    obtain ⟨i, hi, rfl⟩ := hj
    obtain ⟨hlt, he'⟩ := List.getElem?_eq_some_iff.1 hi
    simp at hlt he'
    subst he'
    obtain ⟨g0, g1, g2, g3⟩ := hX j hlt
    obtain ⟨h0, -⟩ := hX 0 (by omega)
    have hs := World.cell?_spot h0
    obtain ⟨b, off, spot⟩ := a'
    simp [Addr.add] at hs
    subst hs
    have e : ∀ q, ((⟨b, off, none⟩ : Addr).add (j * 3)).add q = ⟨b, off + j * 3 + q, none⟩ := fun q => by rw [add_plain, add_plain]
    exact ⟨b, off, rfl, (congrArg W.cell? (e 0)).symm.trans g0, (congrArg W.cell? (e 1)).symm.trans g1, (congrArg W.cell? (e 2)).symm.trans g2, g3⟩

end
end Go.Proofs.Ytfhpjaabcegefaa.Ord
