/-
  Orders played one behind the other: plain.
-/
import Derived.Test.YtlineikeafepcaaMdl
set_option linter.unusedSimpArgs false
set_option linter.unusedVariables false
set_option maxRecDepth 100000
namespace Go.Proofs.Ytlineikeafepcaa
open Go.Arch

/-- What one order makes of its stream's log. -/
def stepL (lg : List Ent) (o : Ord) : List Ent :=
  match firstIn lg lg.length o.id with
  | some _ => lg
  | none => if 64 ≤ lg.length then lg else lg ++ [entOf o]
theorem do_at (M : Logs) (o : Ord) (i : Nat) : (doM M o).1 i = if ordOk o = true ∧ o.stream.toNat = i then stepL (M i) o else M i := by
  by_cases ho : ordOk o = true
  · by_cases hi : o.stream.toNat = i
    · subst hi
      rw [show (if ordOk o = true ∧ o.stream.toNat = o.stream.toNat then stepL (M o.stream.toNat) o else M o.stream.toNat) = stepL (M o.stream.toNat) o from if_pos ⟨ho, rfl⟩]
      unfold doM stepL
      rw [if_pos ho]
      cases hf : firstIn (M o.stream.toNat) (M o.stream.toNat).length o.id with
      | some k => rfl
      | none =>
        dsimp only
        split
        · rfl
        · exact upd_at _ _ _
    · rw [show (if ordOk o = true ∧ o.stream.toNat = i then stepL (M i) o else M i) = M i from if_neg (fun h => hi h.2)]
      unfold doM
      rw [if_pos ho]
      cases hf : firstIn (M o.stream.toNat) (M o.stream.toNat).length o.id with
      | some k => rfl
      | none =>
        dsimp only
        split
        · rfl
        · exact upd_far _ _ (fun e => hi e.symm)
  · rw [show (if ordOk o = true ∧ o.stream.toNat = i then stepL (M i) o else M i) = M i from if_neg (fun h => ho h.1)]
    unfold doM
    rw [if_neg ho]
def playM (M : Logs) (l : List Ord) : Logs := l.foldl (fun M o => (doM M o).1) M
theorem play_snoc (M : Logs) (l : List Ord) (o : Ord) : playM M (l ++ [o]) = (doM (playM M l) o).1 := by simp [playM]
theorem play_next {M : Logs} {l : List Ord} {j : Nat} {o : Ord} (h : l[j]? = some o) : playM M (l.take (j + 1)) = (doM (playM M (l.take j)) o).1 := by
  rw [List.take_add_one, h]
  exact play_snoc _ _ _
theorem fine_play {M : Logs} (h : FineM M) : ∀ l : List Ord, FineM (playM M l) := fun l => by
  unfold playM
  induction l generalizing M with
  | nil => exact h
  | cons o l ih => exact ih (fine_do h o)
def isOf (i : Nat) (o : Ord) : Bool := ordOk o && decide (o.stream.toNat = i)
theorem play_at (i : Nat) : ∀ (l : List Ord) (M : Logs), playM M l i = (l.filter (isOf i)).foldl stepL (M i)
  | [], M => rfl
  | o :: l, M => by
    have ih := play_at i l (doM M o).1
    have e : playM M (o :: l) = playM (doM M o).1 l := rfl
    rw [e, ih, do_at]
    by_cases h : ordOk o = true ∧ o.stream.toNat = i
    · have hb : isOf i o = true := by unfold isOf; rw [h.1, h.2]; simp
      rw [if_pos h, List.filter_cons_of_pos hb]
      rfl
    · have hb : ¬ isOf i o = true := by
        unfold isOf
        intro hb
        rw [Bool.and_eq_true, decide_eq_true_eq] at hb
        exact h hb
      rw [if_neg h, List.filter_cons_of_neg hb]
/-- The orders of one stream. -/
def ofStream (s : Int) (l : List Ord) : List Ord := l.filter fun o => decide (o.stream = s)
theorem play_apart (i : Nat) (l : List Ord) (M : Logs) : playM M l i = playM M (ofStream i l) i := by
  rw [play_at, play_at]
  unfold ofStream
  rw [List.filter_filter]
  congr 1
  apply List.filter_congr
  intro o _
  unfold isOf
  by_cases ho : ordOk o = true
  · have := ordOk_in ho
    by_cases hi : o.stream = (i : Int)
    · have : o.stream.toNat = i := by omega
      simp [ho, hi]
    · have : ¬ o.stream.toNat = i := by omega
      simp [ho, hi, this]
  · simp [ho]
end Go.Proofs.Ytlineikeafepcaa
