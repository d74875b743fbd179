/-
  append([]api.Entry{}, l...), and one more behind it, by runs known ahead.
-/
import Derived.Test.YtifeokabecgimaaTwin
set_option linter.unusedSimpArgs false
set_option linter.unusedVariables false
set_option maxRecDepth 100000
namespace Go.Proofs.Ytifeokabecgimaa
open Go Go.RowKit Go.Sq Go.Wd

/-- v is a row of these entries, in memory from B on. -/
abbrev Row (w : World) (B : Nat) (v : Value) (l : List Ent) : Prop := w.ownsRow B 45 6 v l.length (flat l)

theorem Row.empty (w : World) : Row (w.alloc (.cells #[] 45)) w.heap.size (.slice (some ⟨w.heap.size, 0, none⟩) 0 0) [] := by
  have h := World.ownsRow_made (base := w.heap.size) (e := 45) (size := 6) w #[] 0 (Nat.le_refl _) (by simp [maxLen]) (by simp)
  exact h
theorem Row.keep {w w' : World} {B : Nat} {v : Value} {l : List Ent} (h : Row w B v l) (hb : Below w.heap.size w w') : Row w' B v l := h.kept (only_of_below hb none) (by
  cases hv : v.ownBlock with
  | none => exact .inl rfl
  | some g => exact .inr (fun e => by cases e))
theorem Row.form {w : World} {B : Nat} {v : Value} {l : List Ent} (h : Row w B v l) : ∃ A c, v = .slice A l.length c ∧ l.length ≤ c ∧ c ≤ 9223372036854775807 ∧ Ents w w.heap.size A l := by
  rcases id h.2 with ⟨rfl, hl⟩ | ⟨g, cap, cur, rfl, h1, h2, h3, h4, _⟩
  · have he : l = [] := List.eq_nil_of_length_eq_zero hl
    subst he
    exact ⟨none, 0, rfl, Nat.le_refl _, by omega, Ents.nil⟩
  · exact ⟨_, cap, rfl, h3, by simp only [maxLen] at h4; omega, ents_of rfl h⟩
/-- Entries appended, out of a slice that may be nil. -/
theorem Row.app {W : World} {B : Nat} {v : Value} {l m : List Ent} (h : Row W B v l) (A : Option Addr) (c : Nat) (ha : Ents W W.heap.size A m) (hl : l.length + m.length ≤ 2000) (hB : B ≤ W.heap.size) :
    ∃ v' w', (Builtin.append_ #[22, 22] 22 #[v, .slice A m.length c]).run Try.prog W = .ok v' w' ∧ Row w' B v' (l ++ m) ∧ W.grownBy w' v.ownBlock ∧ (v'.ownBlock = v.ownBlock ∨ v'.ownBlock = some W.heap.size) := by
  obtain ⟨v1, w1, h1, h2, h3, h4⟩ := append_all (P := Try.prog) 22 Try.underlying22 ent_info rfl (by omega) h A m.length c (flat m) (flat_len m) ha.cells (flat_one_cell m) (by simp only [maxLen]; omega) (by omega) hB
  refine ⟨v1, w1, h1, ?_, h3, h4⟩
  unfold Row
  rw [List.length_append, flat_snoc]
  exact h2
/-- The copy of a list. -/
theorem copy_run (l : List Ent) (A : Option Addr) (c : Nat) (W : World) (ha : Ents W W.heap.size A l) (hl : l.length ≤ 2000) :
    ∃ v' w', (Builtin.append_ #[22, 22] 22 #[.slice (some ⟨W.heap.size, 0, none⟩) 0 0, .slice A l.length c]).run Try.prog (W.alloc (.cells #[] 45)) = .ok v' w' ∧ Row w' W.heap.size v' l ∧ Below W.heap.size W w' := by
  have h0 : Below W.heap.size W (W.alloc (.cells #[] 45)) := (Below.refl _ _).alloc (Nat.le_refl _) _
  obtain ⟨v1, w1, h1, h2, h3, _⟩ := Row.app (Row.empty W) A c ((ha.below h0).more h0.size) (by simpa using hl) (by simp)
  exact ⟨v1, w1, h1, h2, below_own h0 h3 (Row.empty W) h0.size⟩
/-- Where the cells of an entry lie, in a row. -/
theorem Row.at_ {w : World} {B : Nat} {v : Value} {l : List Ent} (h : Row w B v l) {j : Nat} {e : Ent} (he : l[j]? = some e) : ∃ g c, v = .slice (some ⟨g, 0, none⟩) l.length c ∧ B ≤ g ∧ g < w.heap.size ∧ EntAt w g (j * 6) e ∧ ∀ k, w.frozen? ⟨g, k, none⟩ = false := by
  have hj := (List.getElem?_eq_some_iff.1 he).1
  obtain ⟨g, c, rfl, hB, hg⟩ := World.ownsRow.form h (by omega)
  have key : ∀ k, k < 6 → w.cell? ⟨g, j * 6 + k, none⟩ = (vals e)[k]? := fun k hk => by
    rw [h.cellAt (j * 6 + k) (by omega)]
    exact flat_get l j e k he hk
  exact ⟨g, c, rfl, hB, hg, ⟨key 0 (by omega), key 1 (by omega), key 2 (by omega), key 3 (by omega), key 4 (by omega), key 5 (by omega)⟩, fun k => h.frozenAt k⟩
theorem flat_set : ∀ (l : List Ent) (j : Nat) (e : Ent) (x : Int), l[j]? = some e → (flat l).set (j * 6) (.int .i64 x) = flat (l.set j (x, e.2))
  | [], j, e, x, h => by simp at h
  | a :: l, 0, e, x, h => by
    simp at h
    subst h
    rfl
  | a :: l, j + 1, e, x, h => by
    have ih := flat_set l j e x (by simpa using h)
    have e1 : flat (a :: l) = vals a ++ flat l := rfl
    have e2 : flat ((a :: l).set (j + 1) (x, e.2)) = vals a ++ flat (l.set j (x, e.2)) := rfl
    rw [e1, e2, ← ih, List.set_append_right _ _ (by simp [vals]; omega)]
    congr 2
    simp [vals]
    omega
/-- The epoch of one of them overwritten. -/
theorem Row.epoch {w : World} {B g c n : Nat} {l : List Ent} (h : Row w B (.slice (some ⟨g, 0, none⟩) n c) l) {j : Nat} {e : Ent} (he : l[j]? = some e) (x : Int) :
    Row (w.setCell ⟨g, j * 6, none⟩ (.int .i64 x)) B (.slice (some ⟨g, 0, none⟩) n c) (l.set j (x, e.2)) := by
  have hn : n = l.length := by
    rcases h.2 with ⟨h, _⟩ | ⟨_, _, _, h, _⟩
    · cases h
    · cases h; rfl
  subst hn
  have h1 := (World.ownsRow.stored h (j * 6) (.int .i64 x)).1
  unfold Row
  rw [List.length_set, ← flat_set l j e x he]
  exact h1
end Go.Proofs.Ytifeokabecgimaa
