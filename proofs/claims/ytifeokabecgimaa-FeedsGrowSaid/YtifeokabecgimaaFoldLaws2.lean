/-
  More plain laws of folds: what an outcome does, epochs, entries put behind.
-/
import Derived.Test.YtifeokabecgimaaFoldLaws
import Derived.Test.YtifeokabecgimaaFoldDec
set_option linter.unusedSimpArgs false
set_option linter.unusedVariables false
set_option maxRecDepth 100000
namespace Go.Proofs.Ytifeokabecgimaa
open Go.Arch

/-- What stands between two states. -/
def StepO (s s' : St) (o : OutS) : Prop :=
  (o.2.2 = [] ∧ s' = s) ∨ ∃ k a, o.2.2 = [(k, a)] ∧ s' = applyS s ⟨k, a⟩ ∧ s'.ver = s.ver + 1 ∧ o.1 = 1 ∧ o.2.1 = s.ver + 1

theorem apply_ver {s : St} {e : Ev} (h : mayS s = true ∧ comesS s e = true) : (applyS s e).ver = s.ver + 1 := by
  unfold applyS; rw [if_pos h]
theorem decS_step (s : St) (o : Ord) : StepO s (decS s o).1 (decS s o).2 := by
  by_cases hc : codeS s o = 1
  · rw [decS_yes hc]
    exact .inr ⟨_, _, rfl, rfl, apply_ver ⟨(code_one hc).1, (code_one hc).2.2.2⟩, rfl, rfl⟩
  · rw [decS_no hc]
    exact .inl ⟨rfl, rfl⟩
theorem fold_step {l : List Ent} {j : Nat} (h : j < l.length) : ∃ o, (foldTo l (j + 1)).2 = (foldTo l j).2 ++ [o] ∧ StepO (foldTo l j).1 (foldTo l (j + 1)).1 o := by
  have he := List.getElem?_eq_getElem h
  rw [fold_succ he]
  unfold stepF
  split
  · refine ⟨_, rfl, .inl ⟨?_, rfl⟩⟩
    unfold dupOf
    split <;> rfl
  · exact ⟨_, rfl, decS_step _ _⟩
theorem fold_at {l : List Ent} {j : Nat} (h : j < l.length) : ∃ o, (foldS l).2[j]? = some o ∧ StepO (foldTo l j).1 (foldTo l (j + 1)).1 o := by
  obtain ⟨o, ho, hs⟩ := fold_step h
  refine ⟨o, ?_, hs⟩
  have h1 := fold_begins l (j + 1) l.length (by omega) (Nat.le_refl _)
  have h2 : ((foldS l).2.take (j + 1))[j]? = some o := by
    unfold foldS
    rw [h1, ho, List.getElem?_append_right (by rw [fold_len l j (by omega)]; exact Nat.le_refl _), fold_len l j (by omega), Nat.sub_self]
    rfl
  rw [List.getElem?_take, if_pos (by omega)] at h2
  exact h2
theorem fold_ver (l : List Ent) : ∀ j, j ≤ l.length → 0 ≤ (foldTo l j).1.ver ∧ (foldTo l j).1.ver ≤ j
  | 0, _ => ⟨Int.le_refl _, Int.le_refl _⟩
  | j + 1, h => by
    have ih := fold_ver l j (by omega)
    obtain ⟨o, _, hs⟩ := fold_step (l := l) (j := j) (by omega)
    rcases hs with ⟨_, hs⟩ | ⟨_, _, _, _, hs, _⟩
    · rw [hs]; omega
    · rw [hs]; omega

theorem get_snd {l m : List Ent} (h : l.map (·.2) = m.map (·.2)) (j : Nat) : (l[j]?).map (·.2) = (m[j]?).map (·.2) := by
  rw [← List.getElem?_map, ← List.getElem?_map, h]
theorem first_same {l m : List Ent} (h : l.map (·.2) = m.map (·.2)) (a : Int) : ∀ j, firstIn l j a = firstIn m j a
  | 0 => rfl
  | j + 1 => by
    have ih := first_same h a j
    have hg := get_snd h j
    unfold firstIn
    rw [ih]
    have h2 : l[j]?.map (·.2.1) = m[j]?.map (·.2.1) := by
      have e := congrArg (Option.map (·.1)) hg
      simpa [Option.map_map, Function.comp_def] using e
    rw [h2]
theorem fold_same {l m : List Ent} (h : l.map (·.2) = m.map (·.2)) : ∀ j, foldTo l j = foldTo m j
  | 0 => rfl
  | j + 1 => by
    have ih := fold_same h j
    have hg := get_snd h j
    unfold foldTo
    rw [ih]
    cases hl : l[j]? with
    | none =>
      rw [hl] at hg
      cases hm : m[j]? with
      | none => rfl
      | some f => rw [hm] at hg; cases hg
    | some e =>
      rw [hl] at hg
      cases hm : m[j]? with
      | none => rw [hm] at hg; cases hg
      | some f =>
        rw [hm] at hg
        simp only [Option.map_some, Option.some.injEq] at hg
        dsimp only
        unfold stepF
        rw [hg, first_same h f.2.1 j]
        unfold ordOf
        rw [hg]
theorem foldS_same {l m : List Ent} (h : l.map (·.2) = m.map (·.2)) : foldS l = foldS m := by
  unfold foldS
  have hl : l.length = m.length := by simpa using congrArg List.length h
  rw [hl]
  exact fold_same h _

theorem fold_front (l r : List Ent) {j : Nat} (h : j ≤ l.length) : foldTo (l ++ r) j = foldTo l j := by
  have := fold_take (l ++ r) l.length j h
  rw [List.take_left' rfl] at this
  exact this.symm
theorem first_front (l r : List Ent) (a : Int) {j : Nat} (h : j ≤ l.length) : firstIn (l ++ r) j a = firstIn l j a := by
  have := first_take (l ++ r) a j l.length h
  rw [List.take_left' rfl] at this
  exact this.symm
/-- A new order at the end. -/
theorem fold_next (l : List Ent) (x : Ent) (h : firstIn l l.length x.2.1 = none) : foldS (l ++ [x]) = ((decS (foldS l).1 (ordOf x)).1, (foldS l).2 ++ [(decS (foldS l).1 (ordOf x)).2]) := by
  unfold foldS
  rw [List.length_append, List.length_singleton, fold_new (e := x) (by rw [List.getElem?_append_right (Nat.le_refl _), Nat.sub_self]; rfl) (by rw [first_front l [x] _ (Nat.le_refl _)]; exact h), fold_front l [x] (Nat.le_refl _)]
/-- An order of before, twice at the end. -/
theorem fold_twice (l : List Ent) (x : Ent) {p : Nat} (h : firstIn l l.length x.2.1 = some p) : foldS (l ++ [x, x]) = ((foldS l).1, (foldS l).2 ++ [dupOf (foldS l).2 p, dupOf (foldS l).2 p]) := by
  have hp := first_lt l _ _ _ h
  unfold foldS
  have hl : (l ++ [x, x]).length = l.length + 1 + 1 := by simp
  have h1 : firstIn (l ++ [x, x]) l.length x.2.1 = some p := by rw [first_front l [x, x] _ (Nat.le_refl _)]; exact h
  have e1 : foldTo (l ++ [x, x]) (l.length + 1) = ((foldTo l l.length).1, (foldTo l l.length).2 ++ [dupOf (foldTo l l.length).2 p]) := by
    rw [fold_dup (e := x) (by rw [List.getElem?_append_right (Nat.le_refl _), Nat.sub_self]; rfl) h1, fold_front l [x, x] (Nat.le_refl _)]
  rw [hl, fold_dup (e := x) (k := p) (by rw [List.getElem?_append_right (by omega), Nat.add_sub_cancel_left]; rfl) (first_mono (by omega) h1), e1]
  have hd : dupOf ((foldTo l l.length).2 ++ [dupOf (foldTo l l.length).2 p]) p = dupOf (foldTo l l.length).2 p := by
    conv => lhs; unfold dupOf
    rw [List.getElem?_append_left (by rw [fold_len l _ (Nat.le_refl _)]; exact hp)]
    rfl
  dsimp only
  rw [hd, List.append_assoc]
  rfl
/-- An ID that stands at k stands first at k, or ahead. -/
theorem first_at {l : List Ent} {k : Nat} {e : Ent} (he : l[k]? = some e) : ∃ p, firstIn l l.length e.2.1 = some p ∧ p ≤ k := by
  have hk : k < l.length := get_lt he
  cases h : firstIn l k e.2.1 with
  | some p => exact ⟨p, first_mono (by omega) h, by have := first_lt l _ _ _ h; omega⟩
  | none => exact ⟨k, first_mono (j := k + 1) (by omega) (first_yes he h rfl), Nat.le_refl _⟩
end Go.Proofs.Ytifeokabecgimaa
