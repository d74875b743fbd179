/-
  Elements put into a row of the call's own, and its end cleared.
-/
import Derived.Test.YtifeokabecgimaaGRow
import Derived.Test.YtifeokabecgimaaMidOps
import Derived.Lib.SliceRun
set_option linter.unusedSimpArgs false
set_option linter.unusedVariables false
set_option maxRecDepth 100000
namespace Go.Gr
open Go Go.RowKit Go.Wd

theorem setAll_get : ∀ (vs : List Value) (xs : List Value) (o k : Nat), o + vs.length ≤ xs.length → (setAll xs o vs)[k]? = if o ≤ k ∧ k < o + vs.length then vs[k - o]? else xs[k]?
  | [], xs, o, k, _ => by
    rw [if_neg (by simp)]
    rfl
  | v :: r, xs, o, k, h => by
    have ih := setAll_get r (xs.set o v) (o + 1) k (by simp at h ⊢; omega)
    show (setAll (xs.set o v) (o + 1) r)[k]? = _
    rw [ih]
    simp only [List.length_cons] at h ⊢
    by_cases h1 : o + 1 ≤ k ∧ k < o + 1 + r.length
    · rw [if_pos h1, if_pos (by omega), show k - o = (k - (o + 1)) + 1 by omega]
      rfl
    · rw [if_neg h1]
      by_cases h2 : k = o
      · subst h2
        rw [if_pos (by omega), List.getElem?_set_self (by omega), Nat.sub_self]
        rfl
      · rw [if_neg (by omega), List.getElem?_set_ne (by omega)]
theorem setAll_len : ∀ (vs : List Value) (xs : List Value) (o : Nat), (setAll xs o vs).length = xs.length
  | [], _, _ => rfl
  | v :: r, xs, o => by
    show (setAll (xs.set o v) (o + 1) r).length = _
    rw [setAll_len r]
    simp
theorem own_setCells {base : Nat} {e : TypeId} {size g n cap : Nat} : ∀ (vs : List Value) (o : Nat) (xs : List Value) (w : World), w.ownsRow base e size (.slice (some ⟨g, 0, none⟩) n cap) n xs →
    (w.setCells g o vs).ownsRow base e size (.slice (some ⟨g, 0, none⟩) n cap) n (setAll xs o vs) ∧ w.grownBy (w.setCells g o vs) (some g)
  | [], _, _, w, h => ⟨h, World.grownBy.refl w _⟩
  | v :: r, o, xs, w, h => by
    have h1 := h.stored o v
    have h2 := own_setCells r (o + 1) (xs.set o v) (w.setCell ⟨g, o, none⟩ v) h1.1
    exact ⟨h2.1, only_trans h1.2 h2.2⟩
section
variable {P : Program} {α : Type} {R : Enc P α} {w w' : World} {B : Nat} {l : List α}
theorem Row.eq_len {g n c : Nat} (h : Row R w B (.slice (some ⟨g, 0, none⟩) n c) l) : n = l.length := by
  rcases h.2 with ⟨h', _⟩ | ⟨g', cap, cur, h1, _⟩
  · cases h'
  · cases h1; rfl
theorem flat_set (R : Enc P α) (l : List α) {i : Nat} (hi : i < l.length) (e : α) : setAll (R.flat l) (i * R.size) (R.enc e) = R.flat (l.set i e) := by
  have hl := R.flat_len l
  have hb : i * R.size + R.size ≤ l.length * R.size := by
    have := Nat.mul_le_mul_right R.size (Nat.succ_le_of_lt hi)
    rw [Nat.succ_mul] at this
    exact this
  have hp := R.pos
  apply List.ext_getElem?
  intro k
  rw [setAll_get _ _ _ _ (by rw [R.len, hl]; exact hb), R.len]
  rcases Nat.lt_or_ge k (l.length * R.size) with hk | hk
  · have hd : k / R.size < l.length := Nat.div_lt_of_lt_mul (by rw [Nat.mul_comm]; exact hk)
    have hm : k % R.size < R.size := Nat.mod_lt _ hp
    have hkk : k / R.size * R.size + k % R.size = k := by rw [Nat.mul_comm]; exact Nat.div_add_mod k R.size
    generalize k / R.size = q at *
    generalize k % R.size = r at *
    subst hkk
    by_cases hq : q = i
    · subst hq
      rw [if_pos (by omega), R.flat_get (l.set q e) q e r (by rw [List.getElem?_set_self hi]) hm]
      congr 1
      omega
    · have hne : ¬ (i * R.size ≤ q * R.size + r ∧ q * R.size + r < i * R.size + R.size) := fun ⟨h1, h2⟩ => by
        rcases Nat.lt_or_gt_of_ne hq with h | h
        · have := Nat.mul_le_mul_right R.size (Nat.succ_le_of_lt h)
          rw [Nat.succ_mul] at this
          omega
        · have := Nat.mul_le_mul_right R.size (Nat.succ_le_of_lt h)
          rw [Nat.succ_mul] at this
          omega
      rw [if_neg hne]
      obtain ⟨x, hx⟩ : ∃ x, l[q]? = some x := ⟨_, List.getElem?_eq_getElem hd⟩
      rw [R.flat_get l q x r hx hm, R.flat_get (l.set i e) q x r (by rw [List.getElem?_set_ne (by omega), hx]) hm]
  · rw [if_neg (by omega), List.getElem?_eq_none (by omega), List.getElem?_eq_none (by rw [R.flat_len, List.length_set]; omega)]
/-- An element put in. -/
theorem Row.put {g n c : Nat} (h : Row R w B (.slice (some ⟨g, 0, none⟩) n c) l) {i : Nat} (hi : i < l.length) (e : α) :
    Row R (w.setCells g (i * R.size) (R.enc e)) B (.slice (some ⟨g, 0, none⟩) n c) (l.set i e) ∧ w.grownBy (w.setCells g (i * R.size) (R.enc e)) (some g) := by
  have hn := Row.eq_len h
  subst hn
  have := own_setCells (R.enc e) (i * R.size) (R.flat l) w h
  rw [flat_set R l hi] at this
  unfold Row
  rw [List.length_set]
  exact this
/-- A store into a row. -/
theorem store_at {ops : Array Oper} {rest : List Oper} {o : Oper} {a : Act} {Q : Exit → Act → World → Prop} (hgd : o.guard = none) (ty : TypeId) (x y : Operand) (ho : o.op = .store ty x y)
    (g i n c off : Nat) (e : α) (hoff : off = i * R.size) (hx : a.eval x = .pointer (some ⟨g, off, none⟩)) (hy : a.eval y = .agg (R.enc e).toArray) (hty : ty = R.elem) (hg : Row R w B (.slice (some ⟨g, 0, none⟩) n c) l) (hi : i < l.length)
    (h : ∀ w', Row R w' B (.slice (some ⟨g, 0, none⟩) n c) (l.set i e) → w.grownBy w' (some g) → wpList P ops Q rest (a.put o.dst undef) w') : wpList P ops Q (o :: rest) a w := by
  subst hoff
  subst hty
  obtain ⟨x', hx'⟩ : ∃ x, l[i]? = some x := ⟨_, List.getElem?_eq_getElem hi⟩
  have hc := Row.cell hg hx'
  obtain ⟨inf, hi1, _, hi3, _⟩ := info_parts R.info
  refine wpList_store_mid hgd R.elem x y ho g (i * R.size) (R.enc e).toArray hx hy (fun j hj => ⟨?_, ?_⟩) ?_ (all_oneCell_toArray (R.one e)) (h _ (Row.put hg hi e).1 (Row.put hg hi e).2)
  · have hj' : j < R.size := by simpa [R.len] using hj
    rw [hc j hj', List.getElem?_eq_getElem (by rw [R.len]; exact hj')]
    rfl
  · have hn := Row.eq_len hg
    subst hn
    exact hg.frozenAt _
  · rw [hi1]
    simp [hi3, R.len]
theorem zeros_one (hz : ∀ v ∈ R.zero.cells.toList, v.oneCell' = true) (n : Nat) : ∀ v ∈ (Builtin.zeroCells R.zero.cells n).toList, v.oneCell' = true := by
  intro v hv
  simp only [Builtin.zeroCells, Array.toList_map, List.mem_map] at hv
  obtain ⟨i, _, rfl⟩ := hv
  have hp := R.pos
  have hs := R.zs
  have hlt : i % R.zero.cells.size < R.zero.cells.size := Nat.mod_lt _ (by omega)
  rw [getElem!_pos R.zero.cells _ hlt]
  exact hz _ (by simp)
/-- The end of a row cleared. -/
theorem Row.clear {g n c m c' : Nat} (h : Row R w B (.slice (some ⟨g, 0, none⟩) n c) l) {i : Nat} (hm : i + m = l.length) (hz : ∀ v ∈ R.zero.cells.toList, v.oneCell' = true) (hzv : ∀ w, (zeroValue R.elem).run P w = .ok R.zero w) (ty : TypeId) :
    ∃ w', (Builtin.clear_ #[R.slice] ty #[.slice (some ⟨g, i * R.size, none⟩) m c']).run P w = .ok (.tuple #[]) w' ∧ w.grownBy w' (some g) ∧ ∀ k e, k < i → l[k]? = some e → At R w' g (k * R.size) e := by
  have hn := Row.eq_len h
  subst hn
  rcases Nat.eq_zero_or_pos m with h0 | h0
  · subst h0
    refine ⟨w, ?_, World.grownBy.refl w _, fun k e _ he => Row.cell h he⟩
    simp [Builtin.clear_, run_underlying R.und]
  · have hlen : (Builtin.zeroCells R.zero.cells m).toList.length = m * R.size := by
      rw [Array.length_toList]
      simp [Builtin.zeroCells, R.zs]
    have hfit : i * R.size + m * R.size = l.length * R.size := by rw [← Nat.add_mul, hm]
    have hst := run_storeCells_cells (P := P) g (i * R.size) (Builtin.zeroCells R.zero.cells m).toList 0 w (fun j hj => by
      rw [hlen] at hj
      rw [Nat.add_zero, h.cellAt _ (by omega), List.getElem?_eq_getElem (by rw [R.flat_len]; omega)]
      rfl) (fun j hj => h.frozenAt _) (zeros_one hz m)
    simp only [Nat.add_zero] at hst
    refine ⟨w.setCells g (i * R.size) (Builtin.zeroCells R.zero.cells m).toList, ?_, (own_setCells _ (i * R.size) (R.flat l) w h).2, fun k e hk he j hj => ?_⟩
    · obtain ⟨m', rfl⟩ : ∃ m', m = m' + 1 := ⟨m - 1, by omega⟩
      simp [Builtin.clear_, run_underlying R.und, hzv, hst]
    · have hlt : k * R.size + R.size ≤ i * R.size := by
        have := Nat.mul_le_mul_right R.size (Nat.succ_le_of_lt hk)
        rw [Nat.succ_mul] at this
        exact this
      rw [World.cell?_setCells_out g _ (i * R.size) w ⟨g, k * R.size + j, none⟩ (fun _ _ => .inl (by show k * R.size + j < i * R.size; omega))]
      exact Row.cell h he j hj
end
end Go.Gr
