/- append kept shut, whatever the source; a slice of the call's own cut short; its size in memory. -/
import Derived.Test.YtacmfiikdbekbaaQ4
import Derived.Test.YtacmfiikdbekbaaQ0

namespace Go.Proofs.Ytacmfiikdbekbaa.Ord
open Go.RowKit

theorem appM_sl {P : Program} (w : World) (base : Nat) (t ty e : TypeId) (i : TypeInfo) (z : Value) (bytes : Nat) (ht : P.underlying t = some (.slice e)) (hi : P.info? e = some i) (hz : i.zero = some z)
    (hsize : i.size = 1) (hby : i.bytes = bytes) (hzs : z.cells.size = 1)
    (v : Value) (n : Nat) (xs : List Value) (hown : w.ownsRow base e 1 v n xs)
    (a : Option Addr) (m c : Nat) (news : List Value) (hs : SlV w a news) (hm : m = news.length) (hc : a = none → c = 0) (h1 : ∀ u ∈ news, u.oneCell' = true)
    (h63 : n + m ≤ maxLen) (hbytes : (n + m) * bytes ≤ 140737488355328) (hbase : base ≤ w.heap.size) :
    ∃ a' c' w', (appM #[t, t] ty #[v, .slice a m c]).run P w = .ok (.slice a' (n + m) c') w' ∧ w'.ownsRow base e 1 (.slice a' (n + m) c') (n + m) (xs ++ news) ∧ w.grownBy w' v.ownBlock ∧ ((Value.slice a' (n + m) c').ownBlock = v.ownBlock ∨ (Value.slice a' (n + m) c').ownBlock = some w.heap.size) := by
  cases a with
  | some ad =>
    obtain ⟨v', w', hr, h2, h3, -, h4⟩ := run_append_own_at (P := P) w base t ty e i z 1 bytes ht hi hz hsize hby hzs (by decide) v n xs hown ad m c news (by omega) hs.cells h1 h63 hbytes hbase
    obtain ⟨a', c', rfl⟩ := own_lenV' h2
    exact ⟨a', c', w', hr, h2, h3, h4⟩
  | none =>
    have hn : news = [] := by
      cases news with
      | nil => rfl
      | cons u us => obtain ⟨b, off, he, -⟩ := hs 0 u rfl; cases he
    subst hn
    have hm0 : m = 0 := hm
    subst hm0
    rw [hc rfl]
    obtain ⟨a', c', rfl⟩ := own_lenV' hown
    exact ⟨a', c', w, run_append_owned_none (P := P) (w := w) base t ty e i 1 ht hi _ n xs hown, by simpa using hown, ⟨rfl, rfl, rfl, Nat.le_refl _, fun _ _ _ => rfl⟩, .inl rfl⟩

theorem own_take {w : World} {B e n k : Nat} {a : Option Addr} {c : Nat} {xs : List Value} (h : w.ownsRow B e 1 (.slice a n c) n xs) (hk : k ≤ n) (hn : a = none → k = 0 ∧ c = 0) : w.ownsRow B e 1 (.slice a k c) k (xs.take k) := by
  have hl := h.1
  refine ⟨by simp; omega, ?_⟩
  rcases h.2 with ⟨h0, _⟩ | ⟨g', cap, cur, e1, e2, e3, e4, e5, e6, e7⟩
  · injection h0 with h0 _ _
    subst h0
    obtain ⟨rfl, rfl⟩ := hn rfl
    exact .inl ⟨rfl, rfl⟩
  · injection e1 with a1 a2 a3
    refine .inr ⟨g', cap, cur, by rw [a1, a3], e2, e3, by omega, e5, e6, ?_⟩
    rw [← e7, List.take_take]
    congr 1
    omega

theorem slice_toG {P : Program} {t e : TypeId} {a : Option Addr} {n c : Nat} {k : Int} {m : Nat} (hkm : k = m) (ht : P.underlying t = some (.slice e)) (hsz : ∀ wx, (sizeOf e).run P wx = .ok 1 wx) (h1 : m ≤ c) :
    ∀ wx, (Instr.slice t (.slice a n c) none (some (.int .i64 k)) none).run P wx = .ok (.slice a m c) wx := by
  subst hkm
  intro wx
  have he : P.elem t = e := by simp [Program.elem, ht]
  rw [run_slice_h (P := P) wx t a n c (by rw [he]; exact ht) .i64 m (by omega) (by omega), he, hsz]
  cases a <;> simp [sliced, Result.andThen, Addr.add]

theorem own_cap {w : World} {B e n m c : Nat} {a : Option Addr} {xs : List Value} (h : w.ownsRow B e 1 (.slice a m c) n xs) : n = m ∧ m ≤ c ∧ (a = none → c = 0 ∧ m = 0) := by
  rcases h.2 with ⟨h0, h1⟩ | ⟨g', cap, cur, e1, e2, e3, e4, -⟩
  · injection h0 with h2 h3 h4
    subst h2 h3 h4 h1
    exact ⟨rfl, Nat.le_refl _, fun _ => ⟨rfl, rfl⟩⟩
  · injection e1 with a1 a2 a3
    subst a1 a2 a3
    exact ⟨rfl, e4, nofun⟩

theorem made_list (z : Value) (n : Nat) : madeCells #[z] n = (List.replicate n z).toArray := by
  have h : (madeCells #[z] n).toList = List.replicate n z := by
    simp only [madeCells, Array.toList_map, Array.toList_range]
    apply List.ext_getElem?
    intro i
    by_cases hi : i < n
    · simp [hi, Nat.mod_one]
    · simp [hi]
  rw [← h]

/-- A contract of a callee that draws, met in a region whose order is open. -/
theorem quiet_drewG {P : Program} {f : FuncId} {args : Array Value} {w : World} {n : Nat} {v : Value}
    (h : Calls P f args (w.drewN n) fun e w' => e = .returned v ∧ ∃ m, w' = (w.drewN n).drewN m) : Calls P f args (w.drewN n) fun e w'' => e = .returned v ∧ ∃ m, w'' = w.drewN m :=
  h.mono fun _ _ ⟨he, m, hm⟩ => ⟨he, n + m, by rw [hm]; exact World.drewN_drewN ..⟩

theorem quiet_drewG2 {P : Program} {f : FuncId} {args : Array Value} {w : World} {k n : Nat} {v : Value}
    (h : Calls P f args (w.drewN (k + n)) fun e w' => e = .returned v ∧ ∃ m, w' = (w.drewN (k + n)).drewN m) : Calls P f args (w.drewN (k + n)) fun e w'' => e = .returned v ∧ ∃ m, w'' = w.drewN (k + m) :=
  h.mono fun _ _ ⟨he, m, hm⟩ => ⟨he, n + m, by rw [hm, World.drewN_drewN, Nat.add_assoc]⟩

end Go.Proofs.Ytacmfiikdbekbaa.Ord
