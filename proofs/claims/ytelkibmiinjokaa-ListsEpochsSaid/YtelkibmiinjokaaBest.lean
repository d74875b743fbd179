/-
  The best of ranks: plain.
-/
import Derived.Test.YtelkibmiinjokaaLists5
set_option linter.unusedSimpArgs false
set_option linter.unusedVariables false
set_option maxRecDepth 100000
namespace Go.Proofs.Ytelkibmiinjokaa

/-- A rank: view, entries. -/
abbrev Rank := Int × Int
def Better (a b : Rank) : Prop := b.1 < a.1 ∨ (b.1 = a.1 ∧ b.2 < a.2)
instance (a b : Rank) : Decidable (Better a b) := by unfold Better; infer_instance

def bestTo (l : List Rank) : Nat → Nat
  | 0 => 0
  | j + 1 => match l[j + 1]?, l[bestTo l j]? with
    | some x, some m => if Better x m then j + 1 else bestTo l j
    | _, _ => bestTo l j

theorem best_le (l : List Rank) : ∀ j, bestTo l j ≤ j
  | 0 => Nat.le_refl _
  | j + 1 => by
    have := best_le l j
    unfold bestTo
    split
    · split <;> omega
    · omega

theorem best_yes {l : List Rank} {j : Nat} {x m : Rank} (hx : l[j + 1]? = some x) (hm : l[bestTo l j]? = some m) (h : Better x m) : bestTo l (j + 1) = j + 1 := by
  simp only [bestTo, hx, hm, h, if_true]
theorem best_no {l : List Rank} {j : Nat} {x m : Rank} (hx : l[j + 1]? = some x) (hm : l[bestTo l j]? = some m) (h : ¬ Better x m) : bestTo l (j + 1) = bestTo l j := by
  simp only [bestTo, hx, hm, h, if_false]

theorem rank_pos (x m : Rank) : (0 < rankL x.1 x.2 m.1 m.2) ↔ Better x m := by
  unfold rankL orL Better cmpL
  by_cases h1 : x.1 < m.1
  · simp [h1]; omega
  · by_cases h2 : m.1 < x.1
    · simp [h1, h2]
    · have h3 : m.1 = x.1 := by omega
      by_cases h4 : x.2 < m.2
      · simp [h1, h2, h4, h3]; omega
      · by_cases h5 : m.2 < x.2
        · simp [h1, h2, h4, h5, h3]
        · simp [h1, h2, h4, h5, h3]

/-- The best one: none is better, and what stands ahead of it is worse. -/
theorem best_is (l : List Rank) : ∀ j, j < l.length → ∀ m, l[bestTo l j]? = some m → ∀ i x, i ≤ j → l[i]? = some x → ¬ Better x m ∧ (i < bestTo l j → Better m x) := by
  intro j
  induction j with
  | zero =>
    intro _ m hm i x hi hx
    obtain rfl : i = 0 := by omega
    simp only [bestTo] at hm ⊢
    rw [hx] at hm
    cases hm
    exact ⟨by unfold Better; omega, fun h => absurd h (by omega)⟩
  | succ j ih =>
    intro hj m hm i x hi hx
    have hb := best_le l j
    obtain ⟨y, hy⟩ : ∃ y, l[j + 1]? = some y := ⟨_, List.getElem?_eq_getElem hj⟩
    obtain ⟨k, hk⟩ : ∃ k, l[bestTo l j]? = some k := ⟨_, List.getElem?_eq_getElem (by omega)⟩
    have ih := ih (by omega) k hk
    by_cases hbt : Better y k
    · rw [best_yes hy hk hbt] at hm ⊢
      rw [hy] at hm
      cases hm
      by_cases hij : i = j + 1
      · subst hij
        rw [hx] at hy
        cases hy
        exact ⟨by unfold Better; omega, fun h => absurd h (by omega)⟩
      · have h1 := (ih i x (by omega) hx).1
        unfold Better at *
        exact ⟨by omega, fun _ => by omega⟩
    · rw [best_no hy hk hbt] at hm ⊢
      rw [hk] at hm
      cases hm
      by_cases hij : i = j + 1
      · subst hij
        rw [hx] at hy
        cases hy
        exact ⟨hbt, fun h => absurd h (by omega)⟩
      · exact ih i x (by omega) hx

/-- Where the best one stands; -1: there is none. -/
def bestL (l : List Rank) : Int := if l.length = 0 then -1 else (bestTo l (l.length - 1) : Nat)
end Go.Proofs.Ytelkibmiinjokaa
