/-
  A slice of entries, read as a list.
-/
import Derived.Test.YtifeokabecgimaaProg
import Derived.Test.YtifeokabecgimaaSeq
import Derived.WalkKit
import Derived.WalkSpells
import Derived.WalkLawsBesides
import Derived.RowKit3
import Derived.Lib.Hide
import Derived.Test.YtifeokabecgimaaWords
import Derived.Test.YtifeokabecgimaaSeqP
import Derived.Laws.StructEq
set_option linter.unusedSimpArgs false
set_option linter.unusedVariables false
set_option maxRecDepth 100000
namespace Go.Proofs.Ytifeokabecgimaa
open Go.RowKit Go.Sq Go.Wd

/-- An entry: its epoch, ID, stream, expected version, kind, argument. -/
abbrev Ent := Int × Int × Int × Int × Int × Int

def vals (e : Ent) : List Value := [.int .i64 e.1, .int .i64 e.2.1, .int .i64 e.2.2.1, .int .i64 e.2.2.2.1, .int .i64 e.2.2.2.2.1, .int .i64 e.2.2.2.2.2]

/-- The six cells of an entry. -/
def EntAt (w : World) (b o : Nat) (e : Ent) : Prop :=
  w.cell? ⟨b, o, none⟩ = some (.int .i64 e.1) ∧ w.cell? ⟨b, o + 1, none⟩ = some (.int .i64 e.2.1) ∧ w.cell? ⟨b, o + 2, none⟩ = some (.int .i64 e.2.2.1) ∧
  w.cell? ⟨b, o + 3, none⟩ = some (.int .i64 e.2.2.2.1) ∧ w.cell? ⟨b, o + 4, none⟩ = some (.int .i64 e.2.2.2.2.1) ∧ w.cell? ⟨b, o + 5, none⟩ = some (.int .i64 e.2.2.2.2.2)

/-- The slice at A holds these entries, below block B. -/
def Ents (w : World) (B : Nat) (A : Option Addr) (l : List Ent) : Prop :=
  0 < l.length → ∃ b off, A = some ⟨b, off, none⟩ ∧ b < B ∧ ∀ i e, l[i]? = some e → EntAt w b (off + i * 6) e

section
variable {w w' : World} {B B' : Nat} {A : Option Addr} {l : List Ent}
theorem EntAt.below {b o : Nat} {e : Ent} (h : EntAt w b o e) (hb : Below B w w') (hB : b < B) : EntAt w' b o e := by
  obtain ⟨h0, h1, h2, h3, h4, h5⟩ := h
  exact ⟨(hb.cell (p := ⟨b, _, none⟩) hB).trans h0, (hb.cell (p := ⟨b, _, none⟩) hB).trans h1, (hb.cell (p := ⟨b, _, none⟩) hB).trans h2,
    (hb.cell (p := ⟨b, _, none⟩) hB).trans h3, (hb.cell (p := ⟨b, _, none⟩) hB).trans h4, (hb.cell (p := ⟨b, _, none⟩) hB).trans h5⟩
theorem Ents.below (h : Ents w B A l) (hb : Below B w w') : Ents w' B A l := fun hl => by
  obtain ⟨b, off, ha, hB, hc⟩ := h hl
  exact ⟨b, off, ha, hB, fun i e he => (hc i e he).below hb hB⟩
theorem Ents.keep (h : Ents w B A l) (hB : B ≤ w.heap.size) (hb : Below w.heap.size w w') : Ents w' B A l := h.below (hb.mono hB)
theorem Ents.more (h : Ents w B A l) (hB : B ≤ B') : Ents w B' A l := fun hl => by
  obtain ⟨b, off, ha, hb, hc⟩ := h hl
  exact ⟨b, off, ha, by omega, hc⟩
theorem Ents.nil : Ents w B A [] := fun h => absurd h (by simp)
theorem Ents.take (h : Ents w B A l) (n : Nat) : Ents w B A (l.take n) := fun hl => by
  obtain ⟨b, off, ha, hb, hc⟩ := h (by simp at hl; omega)
  refine ⟨b, off, ha, hb, fun i e he => hc i e ?_⟩
  rw [List.getElem?_take] at he
  split at he
  · exact he
  · cases he
theorem Ents.at_ (h : Ents w B A l) {k : Nat} (hk : k < l.length) : ∃ b off e, A = some ⟨b, off, none⟩ ∧ Hid (l[k]? = some e) ∧ ∀ w', Below B w w' → EntAt w' b (off + k * 6) e := by
  obtain ⟨b, off, ha, hb, hc⟩ := h (by omega)
  exact ⟨b, off, _, ha, Lib.hid (List.getElem?_eq_getElem hk), fun w' hb' => (hc k _ (List.getElem?_eq_getElem hk)).below hb' hb⟩
end

/-- How many entries two logs begin with alike. -/
def commonL : List Ent → List Ent → Nat
  | a :: l, b :: m => if a = b then commonL l m + 1 else 0
  | _, _ => 0

theorem common_take : ∀ (l m : List Ent), l.take (commonL l m) = m.take (commonL l m)
  | [], m => by simp [commonL]
  | _ :: _, [] => by simp [commonL]
  | a :: l, b :: m => by
    unfold commonL
    split
    · rename_i h; subst h; simp [common_take l m]
    · simp
theorem common_le : ∀ (l m : List Ent), commonL l m ≤ l.length ∧ commonL l m ≤ m.length
  | [], m => by simp [commonL]
  | _ :: _, [] => by simp [commonL]
  | a :: l, b :: m => by
    have := common_le l m
    unfold commonL
    split <;> simp <;> omega
theorem common_is : ∀ (i : Nat) (l m : List Ent), i ≤ l.length → i ≤ m.length → l.take i = m.take i → (i = l.length ∨ i = m.length ∨ l[i]? ≠ m[i]?) → commonL l m = i
  | i, [], m, h1, _, _, _ => by simp at h1; simp [commonL, h1]
  | i, a :: l, [], _, h2, _, _ => by simp at h2; simp [commonL, h2]
  | 0, a :: l, b :: m, _, _, _, h4 => by
    simp at h4
    simp [commonL, h4]
  | i + 1, a :: l, b :: m, h1, h2, h3, h4 => by
    simp at h3
    obtain ⟨rfl, h3⟩ := h3
    simp only [commonL, if_true]
    rw [common_is i l m (by simpa using h1) (by simpa using h2) h3 (by simpa using h4)]
theorem common_stop (l m : List Ent) : commonL l m = l.length ∨ commonL l m = m.length ∨ l[commonL l m]? ≠ m[commonL l m]? := by
  induction l generalizing m with
  | nil => exact .inl rfl
  | cons a l ih =>
    cases m with
    | nil => exact .inr (.inl rfl)
    | cons b m =>
      unfold commonL
      split
      · rename_i h; subst h
        rcases ih m with h | h | h
        · exact .inl (by simp [h])
        · exact .inr (.inl (by simp [h]))
        · exact .inr (.inr (by simpa using h))
      · rename_i h
        exact .inr (.inr (by simpa using h))

theorem take_more {l m : List Ent} {j : Nat} {e : Ent} (h : l.take j = m.take j) (h1 : l[j]? = some e) (h2 : m[j]? = some e) : l.take (j + 1) = m.take (j + 1) := by
  rw [List.take_add_one, List.take_add_one, h, h1, h2]
theorem get_lt {l : List Ent} {j : Nat} {e : Ent} (h : l[j]? = some e) : j < l.length := (List.getElem?_eq_some_iff.1 h).1
theorem common_at {l m : List Ent} {j : Nat} {x y : Ent} (h : l.take j = m.take j) (h1 : l[j]? = some x) (h2 : m[j]? = some y) (hne : x ≠ y) : commonL l m = j :=
  common_is j l m (Nat.le_of_lt (get_lt h1)) (Nat.le_of_lt (get_lt h2)) h (.inr (.inr (by rw [h1, h2]; simpa using hne)))
theorem unlike_at {l m : List Ent} {j : Nat} {x y : Ent} (h1 : l[j]? = some x) (h2 : m[j]? = some y) (hne : x ≠ y) : l ≠ m := by
  rintro rfl
  rw [h1] at h2
  exact hne (Option.some.inj h2)

/-- Two structs of an entry's kind, compared. -/
theorem neq_ent (w : World) (e f : Ent) : (binOp .neq 45 (.agg (vals e).toArray) (.agg (vals f).toArray)).run Try.prog w = .ok (.bool (decide (e ≠ f))) w := by
  obtain ⟨e0, e1, e2, e3, e4, e5⟩ := e
  obtain ⟨f0, f1, f2, f3, f4, f5⟩ := f
  have g0 := Try.underlying45
  simp [vals, go_sem]
  (repeat' split) <;> simp_all

theorem eql_ent (w : World) (e f : Ent) : (binOp .eql 45 (.agg (vals e).toArray) (.agg (vals f).toArray)).run Try.prog w = .ok (.bool (decide (e = f))) w := by
  obtain ⟨e0, e1, e2, e3, e4, e5⟩ := e
  obtain ⟨f0, f1, f2, f3, f4, f5⟩ := f
  have g0 := Try.underlying45
  simp [vals, go_sem]
  (repeat' split) <;> simp_all

end Go.Proofs.Ytifeokabecgimaa
