/-
  Seals, and runs of one epoch: plain.
-/
import Derived.Test.YtelkibmiinjokaaLists4
set_option linter.unusedSimpArgs false
set_option linter.unusedVariables false
set_option maxRecDepth 100000
namespace Go.Proofs.Ytelkibmiinjokaa

theorem sealsTo_pre (l : List Ent) {a b : Nat} (h : a ≤ b) : sealsTo l a <+: sealsTo l b := by
  induction b with
  | zero => obtain rfl : a = 0 := by omega
            exact List.prefix_refl _
  | succ b ih =>
    rcases Nat.lt_or_ge b a with hb | hb
    · obtain rfl : a = b + 1 := by omega
      exact List.prefix_refl _
    · refine (ih hb).trans ?_
      rw [sealsTo_succ]
      exact List.prefix_append _ _

theorem seal_last (l : List Ent) {p : Nat} (h : p + 1 = l.length) : sealAt l p = true := by simp [sealAt, h]
theorem seal_not {l : List Ent} {q : Nat} (h : sealAt l q = false) (hq : q < l.length) : ∃ x y, l[q]? = some x ∧ l[q + 1]? = some y ∧ x.1 = y.1 := by
  have hne : ¬ q + 1 = l.length := by
    intro e
    rw [seal_last l e] at h
    cases h
  have h1 := List.getElem?_eq_getElem hq
  have h2 := List.getElem?_eq_getElem (show q + 1 < l.length by omega)
  refine ⟨_, _, h1, h2, ?_⟩
  unfold sealAt at h
  rw [h1, h2] at h
  simp [hne] at h
  exact h
theorem seal_yes {l : List Ent} {q : Nat} {x y : Ent} (h : sealAt l q = true) (hx : l[q]? = some x) (hy : l[q + 1]? = some y) : x.1 ≠ y.1 := by
  have hlt := (List.getElem?_eq_some_iff.1 hy).1
  have hne : ¬ q + 1 = l.length := by omega
  unfold sealAt at h
  rw [hx, hy] at h
  simpa [hne] using h

/-- The next seal. -/
theorem seal_next (l : List Ent) : ∀ (k a i : Nat), k = l.length - a → a ≤ l.length → (sealsTo l a).length = i → i < (sealsL l).length →
    ∃ p, a ≤ p ∧ p < l.length ∧ sealAt l p = true ∧ (∀ q, a ≤ q → q < p → sealAt l q = false) ∧ (sealsL l)[i]? = some ((p + 1 : Nat) : Int) ∧ (sealsTo l (p + 1)).length = i + 1
  | 0, a, i, hk, ha, hi, hlt => by
    exfalso
    obtain rfl : a = l.length := by omega
    unfold sealsL at hlt
    omega
  | k + 1, a, i, hk, ha, hi, hlt => by
    by_cases hs : sealAt l a = true
    · have e := sealsTo_yes hs
      obtain ⟨t, ht⟩ := sealsTo_pre l (show a + 1 ≤ l.length by omega)
      refine ⟨a, Nat.le_refl _, by omega, hs, fun q h1 h2 => by omega, ?_, ?_⟩
      · unfold sealsL
        rw [← ht, e, List.append_assoc, List.getElem?_append_right (by omega), hi]
        simp
      · rw [e]; simp [hi]
    · have hs' : sealAt l a = false := by simpa using hs
      have e := sealsTo_no hs'
      obtain ⟨p, h1, h2, h3, h4, h5, h6⟩ := seal_next l k (a + 1) i (by omega) (by omega) (by rw [e]; exact hi) hlt
      refine ⟨p, by omega, h2, h3, fun q hq hqp => ?_, h5, h6⟩
      rcases Nat.lt_or_ge a q with h | h
      · exact h4 q (by omega) hqp
      · obtain rfl : q = a := by omega
        exact hs'

theorem seal_end (l : List Ent) {a : Nat} (ha : a ≤ l.length) (h : (sealsTo l a).length = (sealsL l).length) : a = l.length := by
  rcases Nat.lt_or_ge a l.length with hlt | hge
  · exfalso
    obtain ⟨n, hn⟩ : ∃ n, l.length = n + 1 := ⟨l.length - 1, by omega⟩
    have e := sealsTo_yes (seal_last l (p := n) (by omega))
    have hp := (sealsTo_pre l (show a ≤ n by omega)).length_le
    unfold sealsL at h
    rw [hn, e, List.length_append] at h
    simp at h
    omega
  · omega

/-- Between two seals there is one epoch. -/
theorem run_same (l : List Ent) {a p : Nat} (h : ∀ q, a ≤ q → q < p → sealAt l q = false) (hp : p < l.length) : ∀ k x y, a ≤ k → k ≤ p → l[a]? = some x → l[k]? = some y → y.1 = x.1 := by
  intro k
  induction k with
  | zero =>
    intro x y h1 h2 hx hy
    obtain rfl : a = 0 := by omega
    rw [hx] at hy
    cases hy
    rfl
  | succ k ih =>
    intro x y h1 h2 hx hy
    rcases Nat.lt_or_ge k a with h3 | h3
    · obtain rfl : a = k + 1 := by omega
      rw [hx] at hy
      cases hy
      rfl
    · obtain ⟨u, v, hu, hv, he⟩ := seal_not (h k h3 (by omega)) (by omega)
      rw [hy] at hv
      cases hv
      rw [← ih x u h3 (by omega) hx hu, he]

theorem few_rise (l : List Ent) (h : (sealsL l).length ≤ 1) : risesB l = true := by
  rw [rises_iff]
  intro i x y hx hy
  have hlt := (List.getElem?_eq_some_iff.1 hy).1
  obtain ⟨n, hn⟩ : ∃ n, l.length = n + 1 := ⟨l.length - 1, by omega⟩
  have e := sealsTo_yes (seal_last l (p := n) (by omega))
  have h0 : (sealsTo l n).length = 0 := by
    unfold sealsL at h
    rw [hn, e, List.length_append] at h
    simp at h
    simp [h]
  have hs : sealAt l i = false := by
    cases hq : sealAt l i with
    | false => rfl
    | true =>
      exfalso
      have h1 := (sealsTo_pre l (show i + 1 ≤ n by omega)).length_le
      rw [sealsTo_yes hq, List.length_append] at h1
      simp at h1
      omega
  obtain ⟨u, v, hu, hv, he⟩ := seal_not hs (by omega)
  rw [hx] at hu
  rw [hy] at hv
  cases hu
  cases hv
  omega

/-- In a log that rises: whether an entry's epoch came before. -/
theorem rises_le {l : List Ent} (h : Rises l) : ∀ (d i : Nat) x y, l[i]? = some x → l[i + d]? = some y → x.1 ≤ y.1
  | 0, i, x, y, hx, hy => by rw [Nat.add_zero, hx] at hy; cases hy; omega
  | d + 1, i, x, y, hx, hy => by
    have hlt := (List.getElem?_eq_some_iff.1 hy).1
    have hz := List.getElem?_eq_getElem (show i + d < l.length by omega)
    have h1 := rises_le h d i x _ hx hz
    have h2 := h (i + d) _ y hz (by rw [show i + d + 1 = i + (d + 1) from by omega]; exact hy)
    omega

def cameTo (l : List Ent) (i j : Nat) : Bool := (List.range j).any fun k => decide ((l[k]?.map (·.1)) = (l[i]?.map (·.1)))
theorem came_succ (l : List Ent) (i j : Nat) : cameTo l i (j + 1) = (cameTo l i j || decide ((l[j]?.map (·.1)) = (l[i]?.map (·.1)))) := by
  simp [cameTo, List.range_succ]
theorem came_is {l : List Ent} (h : Rises l) {i : Nat} (hi : i < l.length) : cameTo l i i = (decide (0 < i) && !sealAt l (i - 1)) := by
  cases i with
  | zero => simp [cameTo]
  | succ i =>
    obtain ⟨y, hy⟩ : ∃ y, l[i + 1]? = some y := ⟨_, List.getElem?_eq_getElem hi⟩
    obtain ⟨x, hx⟩ : ∃ x, l[i]? = some x := ⟨_, List.getElem?_eq_getElem (by omega)⟩
    simp only [Nat.add_sub_cancel, Nat.zero_lt_succ, decide_true, Bool.true_and]
    cases hs : sealAt l i with
    | false =>
      obtain ⟨u, v, hu, hv, he⟩ := seal_not hs (by omega)
      rw [hx] at hu
      rw [hy] at hv
      cases hu
      cases hv
      rw [came_succ, hx, hy]
      simp [he]
    | true =>
      have hne := seal_yes hs hx hy
      have hle := h i x y hx hy
      rw [Bool.not_true]
      unfold cameTo
      rw [List.any_eq_false]
      intro k hk
      rw [List.mem_range] at hk
      obtain ⟨z, hz⟩ : ∃ z, l[k]? = some z := ⟨_, List.getElem?_eq_getElem (by omega)⟩
      have := rises_le h (i - k) k z x hz (by rw [show k + (i - k) = i from by omega]; exact hx)
      rw [hz, hy]
      simp
      omega

/-- How many epochs there are among the first i entries. -/
def newTo (l : List Ent) (i : Nat) : Nat := if i = 0 then 0 else 1 + (sealsTo l (i - 1)).length
theorem new_succ {l : List Ent} (h : Rises l) {i : Nat} (hi : i < l.length) : newTo l (i + 1) = newTo l i + if cameTo l i i = true then 0 else 1 := by
  rw [came_is h hi]
  cases i with
  | zero => simp [newTo, sealsTo]
  | succ i =>
    simp only [newTo, Nat.add_sub_cancel, Nat.zero_lt_succ, decide_true, Bool.true_and]
    cases hs : sealAt l i with
    | false => rw [sealsTo_no hs]; simp
    | true => rw [sealsTo_yes hs]; simp; omega
theorem new_all (l : List Ent) : newTo l l.length = (sealsL l).length := by
  cases hl : l.length with
  | zero => simp [newTo, sealsL, sealsTo, hl]
  | succ n =>
    unfold newTo sealsL
    rw [hl, sealsTo_yes (seal_last l (p := n) (by omega))]
    simp
    omega
theorem rises_take {l : List Ent} (h : Rises l) (n : Nat) : risesB (l.take n) = true := by
  rw [rises_iff]
  intro i x y hx hy
  rw [List.getElem?_take] at hx hy
  split at hx
  · split at hy
    · exact h i x y hx hy
    · cases hy
  · cases hx
end Go.Proofs.Ytelkibmiinjokaa
