/-
  Rows of structs, whatever struct: a way of writing each one as cells; slices that read as lists; rows of the call's own.
-/
import Derived.Test.YtifeokabecgimaaRowOps
import Derived.Lib.Hide
set_option linter.unusedSimpArgs false
set_option linter.unusedVariables false
set_option maxRecDepth 100000
namespace Go.Gr
open Go Go.RowKit Go.Wd

/-- How an element lies: its type, the slice's type, its cells. -/
structure Enc (P : Program) (α : Type) where
  elem : TypeId
  slice : TypeId
  size : Nat
  bytes : Nat
  zero : Value
  enc : α → List Value
  len : ∀ a, (enc a).length = size
  one : ∀ a, ∀ v ∈ enc a, v.oneCell' = true
  pos : 0 < size
  und : P.underlying slice = some (.slice elem)
  info : (P.info? elem).map (fun i => (i.zero, i.size, i.bytes)) = some (some zero, size, bytes)
  zs : zero.cells.size = size
  few : bytes ≤ 1000

section
variable {P : Program} {α : Type} (R : Enc P α)
def Enc.flat (l : List α) : List Value := l.flatMap R.enc
theorem Enc.flat_cons (a : α) (l : List α) : R.flat (a :: l) = R.enc a ++ R.flat l := rfl
theorem Enc.flat_nil : R.flat [] = [] := rfl
theorem Enc.flat_len (l : List α) : (R.flat l).length = l.length * R.size := by
  induction l with
  | nil => simp [Enc.flat]
  | cons a l ih => rw [R.flat_cons, List.length_append, ih, R.len, List.length_cons, Nat.add_mul, Nat.one_mul]; omega
theorem Enc.flat_app (l m : List α) : R.flat (l ++ m) = R.flat l ++ R.flat m := by simp [Enc.flat]
theorem Enc.flat_one (a : α) : R.flat [a] = R.enc a := by simp [Enc.flat]
theorem Enc.flat_get : ∀ (l : List α) (i : Nat) (e : α) (k : Nat), l[i]? = some e → k < R.size → (R.flat l)[i * R.size + k]? = (R.enc e)[k]?
  | [], i, e, k, h, _ => by simp at h
  | a :: l, 0, e, k, h, hk => by
    simp at h
    subst h
    rw [R.flat_cons, Nat.zero_mul, Nat.zero_add, List.getElem?_append_left (by rw [R.len]; exact hk)]
  | a :: l, i + 1, e, k, h, hk => by
    have ih := Enc.flat_get l i e k (by simpa using h) hk
    rw [R.flat_cons, List.getElem?_append_right (by rw [R.len, Nat.add_mul]; omega), ← ih, R.len]
    congr 1
    rw [Nat.add_mul]
    omega
theorem Enc.flat_1 (l : List α) : ∀ u ∈ R.flat l, u.oneCell' = true := by
  intro u hu
  simp only [Enc.flat, List.mem_flatMap] at hu
  obtain ⟨e, _, hu⟩ := hu
  exact R.one e u hu
theorem add_at (b o j : Nat) : (⟨b, o, none⟩ : Addr).add j = ⟨b, o + j, none⟩ := by
  unfold Addr.add
  by_cases h : j = 0 <;> simp [h]

/-- The cells of an element lie at this place. -/
def At (w : World) (b o : Nat) (e : α) : Prop := ∀ k, k < R.size → w.cell? ⟨b, o + k, none⟩ = (R.enc e)[k]?
/-- The slice at A holds these elements, below block B. -/
def Sl (w : World) (B : Nat) (A : Option Addr) (l : List α) : Prop :=
  0 < l.length → ∃ b off, A = some ⟨b, off, none⟩ ∧ b < B ∧ ∀ i e, l[i]? = some e → At R w b (off + i * R.size) e
/-- v is a row of these elements, in memory from B on. -/
abbrev Row (w : World) (B : Nat) (v : Value) (l : List α) : Prop := w.ownsRow B R.elem R.size v l.length (R.flat l)
end

section
variable {P : Program} {α : Type} {R : Enc P α} {w w' : World} {B B' : Nat} {A : Option Addr} {l m : List α} {v : Value}
theorem At.below {b o : Nat} {e : α} (h : At R w b o e) (hb : Below B w w') (hB : b < B) : At R w' b o e := fun k hk => (hb.cell (p := ⟨b, _, none⟩) hB).trans (h k hk)
theorem Sl.below (h : Sl R w B A l) (hb : Below B w w') : Sl R w' B A l := fun hl => by
  obtain ⟨b, off, ha, hB, hc⟩ := h hl
  exact ⟨b, off, ha, hB, fun i e he => (hc i e he).below hb hB⟩
theorem Sl.more (h : Sl R w B A l) (hB : B ≤ B') : Sl R w B' A l := fun hl => by
  obtain ⟨b, off, ha, hb, hc⟩ := h hl
  exact ⟨b, off, ha, by omega, hc⟩
theorem Sl.keep (h : Sl R w w.heap.size A l) (hb : Below w.heap.size w w') : Sl R w' w'.heap.size A l := (h.below hb).more hb.size
theorem Sl.nil : Sl R w B A [] := fun h => absurd h (by simp)
theorem Sl.at_ (h : Sl R w B A l) {k : Nat} (hk : k < l.length) : ∃ b off e, A = some ⟨b, off, none⟩ ∧ Hid (l[k]? = some e) ∧ b < B ∧ ∀ w', Below B w w' → At R w' b (off + k * R.size) e := by
  obtain ⟨b, off, ha, hb, hc⟩ := h (by omega)
  exact ⟨b, off, _, ha, Lib.hid (List.getElem?_eq_getElem hk), hb, fun w' hb' => (hc k _ (List.getElem?_eq_getElem hk)).below hb' hb⟩
theorem Sl.take (h : Sl R w B A l) (n : Nat) : Sl R w B A (l.take n) := fun hl => by
  obtain ⟨b, off, ha, hb, hc⟩ := h (by simp at hl; omega)
  refine ⟨b, off, ha, hb, fun i e he => hc i e ?_⟩
  rw [List.getElem?_take] at he
  split at he
  · exact he
  · cases he
theorem Sl.drop {b off : Nat} (h : Sl R w B (some ⟨b, off, none⟩) l) (n : Nat) : Sl R w B (some ⟨b, off + n * R.size, none⟩) (l.drop n) := fun hl => by
  obtain ⟨b', off', ha, hb, hc⟩ := h (by simp at hl; omega)
  cases ha
  refine ⟨b, _, rfl, hb, fun i e he => ?_⟩
  rw [List.getElem?_drop] at he
  have := hc (n + i) e he
  rw [Nat.add_mul, ← Nat.add_assoc] at this
  exact this
/-- Where the cells of such a slice lie. -/
theorem Sl.cells (h : Sl R w B A l) (h0 : 0 < l.length) : ∃ ad, A = some ad ∧ ∀ j u, (R.flat l)[j]? = some u → w.cell? (ad.add j) = some u := by
  obtain ⟨b, off, ha, hb, hc⟩ := h h0
  refine ⟨_, ha, fun j u hu => ?_⟩
  have hj : j < l.length * R.size := by
    have := (List.getElem?_eq_some_iff.1 hu).1
    rw [R.flat_len] at this
    exact this
  have hp := R.pos
  have hd : j / R.size < l.length := Nat.div_lt_of_lt_mul (by rw [Nat.mul_comm]; exact hj)
  have hm : j % R.size < R.size := Nat.mod_lt _ hp
  have hjj : j / R.size * R.size + j % R.size = j := by rw [Nat.mul_comm]; exact Nat.div_add_mod j R.size
  obtain ⟨e, he⟩ : ∃ e, l[j / R.size]? = some e := ⟨_, List.getElem?_eq_getElem hd⟩
  have hf := R.flat_get l (j / R.size) e (j % R.size) he hm
  rw [hjj, hu] at hf
  rw [add_at, hf]
  have := hc _ e he (j % R.size) hm
  rw [Nat.add_assoc, hjj] at this
  exact this
theorem Row.nil (w : World) (B : Nat) : Row R w B (.slice none 0 0) [] := by
  unfold Row
  exact World.ownsRow_nil _ _ _ _
theorem Row.keep (h : Row R w B v l) (hb : Below w.heap.size w w') : Row R w' B v l := h.kept (only_of_below hb none) (by
  cases hv : v.ownBlock with
  | none => exact .inl rfl
  | some g => exact .inr (fun e => by cases e))
theorem Row.far {k : Nat} (h : Row R w B v l) (hg : w.grownBy w' (some k)) (hk : k < B) : Row R w' B v l := h.kept hg (by
  cases hv : v.ownBlock with
  | none => exact .inl rfl
  | some g => exact .inr (fun e => by have := (h.lt g hv).1; cases e; omega))
theorem Row.beside {row : Option Nat} (h : Row R w B v l) (hg : w.grownBy w' row) (hk : ∀ g, v.ownBlock = some g → some g ≠ row) : Row R w' B v l := h.kept hg (by
  cases hv : v.ownBlock with
  | none => exact .inl rfl
  | some g => exact .inr (hk g hv))
theorem Row.base (h : Row R w B v l) (hB : B' ≤ B) : Row R w B' v l := by
  refine ⟨h.1, ?_⟩
  rcases h.2 with h' | ⟨g, cap, cur, h1, h2, r⟩
  · exact .inl h'
  · exact .inr ⟨g, cap, cur, h1, Nat.le_trans hB h2, r⟩
/-- The cells of an element of a row. -/
theorem Row.cell {g n c : Nat} (h : Row R w B (.slice (some ⟨g, 0, none⟩) n c) l) {i : Nat} {e : α} (he : l[i]? = some e) : At R w g (i * R.size) e := fun k hk => by
  have hn : n = l.length := by
    rcases h.2 with ⟨h', _⟩ | ⟨g', cap, cur, h1, _⟩
    · cases h'
    · cases h1; rfl
  subst hn
  have hi := (List.getElem?_eq_some_iff.1 he).1
  have hlt : i * R.size + k < l.length * R.size := by
    have := Nat.mul_le_mul_right R.size (Nat.succ_le_of_lt hi)
    rw [Nat.succ_mul] at this
    omega
  rw [h.cellAt (i * R.size + k) hlt]
  exact R.flat_get l i e k he hk
theorem Row.form (h : Row R w B v l) : ∃ A c, v = .slice A l.length c ∧ l.length ≤ c ∧ c ≤ 9223372036854775807 ∧ Sl R w w.heap.size A l := by
  rcases id h.2 with ⟨rfl, hl⟩ | ⟨g, cap, cur, rfl, h1, h2, h3, h4, _⟩
  · have he : l = [] := List.eq_nil_of_length_eq_zero hl
    subst he
    exact ⟨none, 0, rfl, Nat.le_refl _, by omega, Sl.nil⟩
  · refine ⟨_, cap, rfl, h3, by simp only [maxLen] at h4; omega, fun hl => ⟨g, 0, rfl, (h.lt g rfl).2, fun i e hi => ?_⟩⟩
    rw [Nat.zero_add]
    exact Row.cell h hi
theorem Row.where_ (h : Row R w B v l) : v = .slice none 0 0 ∧ l = [] ∨ ∃ g c, v = .slice (some ⟨g, 0, none⟩) l.length c ∧ B ≤ g ∧ g < w.heap.size ∧ l.length ≤ c ∧ c ≤ 9223372036854775807 := by
  rcases id h.2 with ⟨rfl, hl⟩ | ⟨g, cap, cur, rfl, h1, h2, h3, h4, _⟩
  · exact .inl ⟨rfl, List.eq_nil_of_length_eq_zero hl⟩
  · exact .inr ⟨g, cap, rfl, h1, (h.lt g rfl).2, h3, by simp only [maxLen] at h4; omega⟩
/-- One more element. -/
theorem Row.snoc (h : Row R w B v l) (e : α) (hn : l.length < 100000) (hB : B ≤ w.heap.size) {H : Nat} (hH : w.heap.size = H) (ty : TypeId) :
    ∃ v' w', (Builtin.append_ #[R.slice, R.slice] ty #[v, .slice (some ⟨H, 0, none⟩) 1 1]).run P (w.alloc (.cells (R.enc e).toArray R.elem)) = .ok v' w' ∧ Row R w' B v' (l ++ [e]) ∧ w.grownBy w' v.ownBlock ∧
      (v'.ownBlock = v.ownBlock ∨ v'.ownBlock = some (H + 1)) := by
  obtain ⟨v', w', hr, ho, hg, hb⟩ := append_one (P := P) ty R.und R.info R.zs R.pos h (R.enc e) (R.len e) (R.one e) (by simp only [maxLen]; omega) (by have := R.few; have := Nat.mul_le_mul (show l.length + 1 ≤ 100000 by omega) this; omega) hB hH
  refine ⟨v', w', hr, ?_, hg, hb⟩
  unfold Row
  rw [List.length_append, R.flat_app, R.flat_one]
  exact ho
/-- Many more. -/
theorem Row.app (h : Row R w B v l) (A : Option Addr) (c : Nat) (ha : Sl R w w.heap.size A m) (hl : l.length + m.length ≤ 100000) (hB : B ≤ w.heap.size) (ty : TypeId) :
    ∃ v' w', (Builtin.append_ #[R.slice, R.slice] ty #[v, .slice A m.length c]).run P w = .ok v' w' ∧ Row R w' B v' (l ++ m) ∧ w.grownBy w' v.ownBlock ∧ (v'.ownBlock = v.ownBlock ∨ v'.ownBlock = some w.heap.size) := by
  obtain ⟨v1, w1, h1, h2, h3, h4⟩ := append_all (P := P) ty R.und R.info R.zs R.pos h A m.length c (R.flat m) (R.flat_len m) ha.cells (R.flat_1 m) (by simp only [maxLen]; omega) (by have := R.few; have := Nat.mul_le_mul hl this; omega) hB
  refine ⟨v1, w1, h1, ?_, h3, h4⟩
  unfold Row
  rw [List.length_append, R.flat_app]
  exact h2
/-- A row made of one literal. -/
theorem Row.empty (w : World) : Row R (w.alloc (.cells #[] R.elem)) w.heap.size (.slice (some ⟨w.heap.size, 0, none⟩) 0 0) [] := by
  have h := World.ownsRow_made (base := w.heap.size) (e := R.elem) (size := R.size) w #[] 0 (Nat.le_refl _) (by simp [maxLen]) (by simp)
  exact h
/-- The copy of a list: append([]T{}, l...). -/
theorem copy_run (A : Option Addr) (c : Nat) (ha : Sl R w w.heap.size A l) (hl : l.length ≤ 100000) (ty : TypeId) :
    ∃ v' w', (Builtin.append_ #[R.slice, R.slice] ty #[.slice (some ⟨w.heap.size, 0, none⟩) 0 0, .slice A l.length c]).run P (w.alloc (.cells #[] R.elem)) = .ok v' w' ∧ Row R w' w.heap.size v' l ∧ Below w.heap.size w w' := by
  have h0 : Below w.heap.size w (w.alloc (.cells #[] R.elem)) := (Below.refl _ _).alloc (Nat.le_refl _) _
  obtain ⟨v1, w1, h1, h2, h3, _⟩ := Row.app (Row.empty (R := R) w) A c ((ha.below h0).more h0.size) (by simpa using hl) (by simp) ty
  exact ⟨v1, w1, h1, h2, below_own h0 h3 (Row.empty (R := R) w) h0.size⟩
/-- A literal slice. -/
theorem Sl.lit (w : World) (l : List α) : Sl R (w.alloc (.cells (R.flat l).toArray R.elem)) (w.heap.size + 1) (some ⟨w.heap.size, 0, none⟩) l := fun _ => by
  have hb := Blk.new w R.elem (R.flat l)
  refine ⟨w.heap.size, 0, rfl, Nat.lt_succ_self _, fun i e he k hk => ?_⟩
  rw [Nat.zero_add, hb.cell]
  exact R.flat_get l i e k he hk
theorem below_row {w1 : World} (h : Below B w w1) (hg : w1.grownBy w' v.ownBlock) (ho : Row R w1 B v l) (hw : B ≤ w1.heap.size) : Below B w w' := below_own h hg ho hw
end
end Go.Gr
