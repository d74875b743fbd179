/-
  Plain laws of folds.
-/
import Derived.Test.YtifeokabecgimaaFoldFind
set_option linter.unusedSimpArgs false
set_option linter.unusedVariables false
set_option maxRecDepth 100000
namespace Go.Proofs.Ytifeokabecgimaa
open Go.Arch

theorem fold_take (l : List Ent) (m : Nat) : ∀ j, j ≤ m → foldTo (l.take m) j = foldTo l j
  | 0, _ => rfl
  | j + 1, h => by
    have ih := fold_take l m j (by omega)
    unfold foldTo
    rw [ih, show (l.take m)[j]? = l[j]? from by rw [List.getElem?_take]; exact if_pos (by omega)]
    cases l[j]? with
    | none => rfl
    | some e =>
      dsimp only
      unfold stepF
      rw [first_take l _ j m (by omega)]
theorem fold_grow (l : List Ent) (j : Nat) (h : j < l.length) : ∃ o, (foldTo l (j + 1)).2 = (foldTo l j).2 ++ [o] := by
  have he := List.getElem?_eq_getElem h
  rw [fold_succ he]
  unfold stepF
  split
  · exact ⟨_, rfl⟩
  · exact ⟨_, rfl⟩
theorem fold_begins (l : List Ent) (j : Nat) : ∀ n, j ≤ n → n ≤ l.length → (foldTo l n).2.take j = (foldTo l j).2
  | 0, h, _ => by
    obtain rfl : j = 0 := by omega
    rfl
  | n + 1, h, hn => by
    by_cases hj : j = n + 1
    · subst hj
      exact List.take_of_length_le (by rw [fold_len l (n + 1) hn]; exact Nat.le_refl _)
    · have ih := fold_begins l j n (by omega) (by omega)
      obtain ⟨o, ho⟩ := fold_grow l n (by omega)
      rw [ho, List.take_append_of_le_length (by rw [fold_len l n (by omega)]; omega), ih]
/-- The outcomes of a beginning. -/
theorem fold_cut (l : List Ent) {m : Nat} (h : m ≤ l.length) : (foldS (l.take m)).2 = (foldS l).2.take m := by
  unfold foldS
  rw [fold_begins l m l.length h (Nat.le_refl _), List.length_take, Nat.min_eq_left h, fold_take l m m (Nat.le_refl _)]
end Go.Proofs.Ytifeokabecgimaa
