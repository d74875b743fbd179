/-
  Items appended to nothing, and one more behind them.
-/
import Derived.Test.YtelkibmiinjokaaItems
set_option linter.unusedSimpArgs false
set_option linter.unusedVariables false
set_option maxRecDepth 100000
namespace Go.Proofs.Ytelkibmiinjokaa
open Go Go.RowKit Go.Sq Go.Wd Go.Arch

def iflat (l : List Itm) : List Value := l.flatMap itv
theorem it_info3 : (Try.prog.info? 69).map (fun i => (i.zero, i.size, i.bytes)) = some (some (.agg #[.int .i64 0, .int .i64 0, .int .i64 0, .int .i64 0, .int .i64 0, .int .i64 0, .int .i64 0, .int .i64 0, .int .i64 0, .slice none 0 0]), 10, 96) := by kernel_rfl
theorem iflat_len (l : List Itm) : (iflat l).length = l.length * 10 := by
  induction l with
  | nil => rfl
  | cons a l ih =>
    have e : iflat (a :: l) = itv a ++ iflat l := rfl
    rw [e, List.length_append, ih]
    simp [itv]
    omega
theorem iflat_app (l m : List Itm) : iflat (l ++ m) = iflat l ++ iflat m := by simp [iflat]
theorem iflat_get : ∀ (l : List Itm) (i : Nat) (e : Itm) (k : Nat), l[i]? = some e → k < 10 → (iflat l)[i * 10 + k]? = (itv e)[k]?
  | [], i, e, k, h, _ => by simp at h
  | a :: l, 0, e, k, h, hk => by
    simp at h
    subst h
    have e2 : iflat (a :: l) = itv a ++ iflat l := rfl
    rw [e2, Nat.zero_mul, Nat.zero_add, List.getElem?_append_left (by simpa [itv] using hk)]
  | a :: l, i + 1, e, k, h, hk => by
    have ih := iflat_get l i e k (by simpa using h) hk
    have e2 : iflat (a :: l) = itv a ++ iflat l := rfl
    rw [e2, List.getElem?_append_right (by simp [itv]; omega), ← ih]
    congr 1
    simp [itv]
    omega
theorem iflat_one (l : List Itm) : ∀ u ∈ iflat l, u.oneCell' = true := by
  intro u hu
  simp only [iflat, List.mem_flatMap] at hu
  obtain ⟨e, _, hu⟩ := hu
  simp only [itv, List.mem_cons, List.not_mem_nil, or_false] at hu
  rcases hu with rfl | rfl | rfl | rfl | rfl | rfl | rfl | rfl | rfl | rfl <;> rfl
theorem off_add (b o j : Nat) : (⟨b, o, none⟩ : Addr).add j = ⟨b, o + j, none⟩ := by
  unfold Addr.add
  by_cases h : j = 0 <;> simp [h]
theorem ten {k : Nat} (h : k < 10) : k = 0 ∨ k = 1 ∨ k = 2 ∨ k = 3 ∨ k = 4 ∨ k = 5 ∨ k = 6 ∨ k = 7 ∨ k = 8 ∨ k = 9 := by omega
theorem Items.cells {w : World} {B : Nat} {A : Option Addr} {l : List Itm} (h : Items w B A l) (h0 : 0 < l.length) : ∃ ad, A = some ad ∧ ∀ j u, (iflat l)[j]? = some u → w.cell? (ad.add j) = some u := by
  obtain ⟨b, off, ha, hb, hc⟩ := h.2 h0
  refine ⟨_, ha, fun j u hu => ?_⟩
  have hj : j < l.length * 10 := by
    have := (List.getElem?_eq_some_iff.1 hu).1
    rw [iflat_len] at this
    exact this
  obtain ⟨i, k, hk, rfl⟩ : ∃ i k, k < 10 ∧ j = i * 10 + k := ⟨j / 10, j % 10, Nat.mod_lt _ (by omega), by omega⟩
  obtain ⟨e, he⟩ : ∃ e, l[i]? = some e := ⟨_, List.getElem?_eq_getElem (by omega)⟩
  rw [iflat_get l i e k he hk] at hu
  rw [off_add]
  obtain ⟨c0, c1, c2, c3, c4, c5, c6, c7, c8, c9⟩ := hc i e he
  obtain rfl | rfl | rfl | rfl | rfl | rfl | rfl | rfl | rfl | rfl := ten hk
  all_goals
    simp [itv] at hu
    subst hu
    simpa [Nat.add_assoc] using by assumption
/-- v is a row of these items, in memory from B on. -/
abbrev IRow (w : World) (B : Nat) (v : Value) (l : List Itm) : Prop := w.ownsRow B 69 10 v l.length (iflat l)
theorem IRow.app {W : World} {B : Nat} {v : Value} {l m : List Itm} (h : IRow W B v l) (A : Option Addr) (c : Nat) (ha : Items W W.heap.size A m) (hl : l.length + m.length ≤ 2000) (hB : B ≤ W.heap.size) :
    ∃ v' w', (Builtin.append_ #[45, 45] 45 #[v, .slice A m.length c]).run Try.prog W = .ok v' w' ∧ IRow w' B v' (l ++ m) ∧ W.grownBy w' v.ownBlock := by
  obtain ⟨v1, w1, h1, h2, h3, h4⟩ := append_all (P := Try.prog) 45 Try.underlying45 it_info3 rfl (by omega) h A m.length c (iflat m) (iflat_len m) ha.cells (iflat_one m) (by simp only [maxLen]; omega) (by omega) hB
  refine ⟨v1, w1, h1, ?_, h3⟩
  unfold IRow
  rw [List.length_append, iflat_app]
  exact h2
theorem IRow.nil (w : World) (B : Nat) : IRow w B (.slice none 0 0) [] := World.ownsRow_nil _ _ _ _
theorem IRow.keep {w w' : World} {B : Nat} {v : Value} {l : List Itm} (h : IRow w B v l) (hb : Below w.heap.size w w') : IRow w' B v l := h.kept (only_of_below hb none) (by
  cases hv : v.ownBlock with
  | none => exact .inl rfl
  | some g => exact .inr (fun e => by cases e))
theorem IRow.items {w : World} {B : Nat} {v : Value} {l : List Itm} (h : IRow w B v l) (hE : ∀ x ∈ l, EvsAt w w.heap.size x.sl x.evs) : ∃ A c, v = .slice A l.length c ∧ l.length ≤ c ∧ c ≤ 9223372036854775807 ∧ Items w w.heap.size A l := by
  rcases id h.2 with ⟨rfl, hl⟩ | ⟨g, cap, cur, rfl, h1, h2, h3, h4, _⟩
  · have he : l = [] := List.eq_nil_of_length_eq_zero hl
    subst he
    exact ⟨none, 0, rfl, Nat.le_refl _, by omega, hE, fun h => absurd h (by simp)⟩
  · refine ⟨_, cap, rfl, h3, by simp only [maxLen] at h4; omega, hE, fun hl => ⟨g, 0, rfl, (h.lt g rfl).2, fun i e hi => ?_⟩⟩
    have hlt := (List.getElem?_eq_some_iff.1 hi).1
    have key : ∀ k, k < 10 → w.cell? ⟨g, i * 10 + k, none⟩ = (itv e)[k]? := fun k hk => by
      rw [h.cellAt (i * 10 + k) (by omega)]
      exact iflat_get l i e k hi hk
    rw [Nat.zero_add]
    exact ⟨key 0 (by omega), key 1 (by omega), key 2 (by omega), key 3 (by omega), key 4 (by omega), key 5 (by omega), key 6 (by omega), key 7 (by omega), key 8 (by omega), key 9 (by omega)⟩
end Go.Proofs.Ytelkibmiinjokaa
