/-
  Rows of orders, and slices of orders read as lists.
-/
import Derived.Test.YtlineikeafepcaaMdl
import Derived.Laws.StructEq
set_option linter.unusedSimpArgs false
set_option linter.unusedVariables false
set_option maxRecDepth 100000
namespace Go.Proofs.Ytlineikeafepcaa
open Go Go.RowKit Go.Sq Go.Wd Go.Arch

/-- The five cells of an order. -/
def OrdAt (w : World) (b o : Nat) (e : Ord) : Prop :=
  w.cell? ⟨b, o, none⟩ = some (.int .i64 e.id) ∧ w.cell? ⟨b, o + 1, none⟩ = some (.int .i64 e.stream) ∧ w.cell? ⟨b, o + 2, none⟩ = some (.int .i64 e.expect) ∧
  w.cell? ⟨b, o + 3, none⟩ = some (.int .i64 e.kind) ∧ w.cell? ⟨b, o + 4, none⟩ = some (.int .i64 e.arg)
/-- The slice at A holds these orders, below block B. -/
def Ords (w : World) (B : Nat) (A : Option Addr) (l : List Ord) : Prop :=
  0 < l.length → ∃ b off, A = some ⟨b, off, none⟩ ∧ b < B ∧ ∀ i e, l[i]? = some e → OrdAt w b (off + i * 5) e
section
variable {w w' : World} {B B' : Nat} {A : Option Addr} {l : List Ord}
theorem OrdAt.below {b o : Nat} {e : Ord} (h : OrdAt w b o e) (hb : Below B w w') (hB : b < B) : OrdAt w' b o e := by
  obtain ⟨h0, h1, h2, h3, h4⟩ := h
  exact ⟨(hb.cell (p := ⟨b, _, none⟩) hB).trans h0, (hb.cell (p := ⟨b, _, none⟩) hB).trans h1, (hb.cell (p := ⟨b, _, none⟩) hB).trans h2,
    (hb.cell (p := ⟨b, _, none⟩) hB).trans h3, (hb.cell (p := ⟨b, _, none⟩) hB).trans h4⟩
theorem Ords.below (h : Ords w B A l) (hb : Below B w w') : Ords w' B A l := fun hl => by
  obtain ⟨b, off, ha, hB, hc⟩ := h hl
  exact ⟨b, off, ha, hB, fun i e he => (hc i e he).below hb hB⟩
theorem Ords.more (h : Ords w B A l) (hB : B ≤ B') : Ords w B' A l := fun hl => by
  obtain ⟨b, off, ha, hb, hc⟩ := h hl
  exact ⟨b, off, ha, by omega, hc⟩
theorem Ords.nil : Ords w B A [] := fun h => absurd h (by simp)
theorem Ords.keep (h : Ords w w.heap.size A l) (hb : Below w.heap.size w w') : Ords w' w'.heap.size A l := (h.below hb).more hb.size
theorem Ords.at_ (h : Ords w B A l) {k : Nat} (hk : k < l.length) : ∃ b off e, A = some ⟨b, off, none⟩ ∧ Hid (l[k]? = some e) ∧ b < B ∧ ∀ w', Below B w w' → OrdAt w' b (off + k * 5) e := by
  obtain ⟨b, off, ha, hb, hc⟩ := h (by omega)
  exact ⟨b, off, _, ha, Lib.hid (List.getElem?_eq_getElem hk), hb, fun w' hb' => (hc k _ (List.getElem?_eq_getElem hk)).below hb' hb⟩
end

theorem ord_info : (Try.prog.info? 37).map (fun i => (i.zero, i.size, i.bytes)) = some (some (.agg #[.int .i64 0, .int .i64 0, .int .i64 0, .int .i64 0, .int .i64 0]), 5, 40) := by kernel_rfl
def oflat5 (l : List Ord) : List Value := l.flatMap ordv
theorem oflat5_len (l : List Ord) : (oflat5 l).length = l.length * 5 := by
  induction l with
  | nil => rfl
  | cons a l ih =>
    have e : oflat5 (a :: l) = ordv a ++ oflat5 l := rfl
    rw [e, List.length_append, ih]
    simp [ordv]
    omega
theorem oflat5_app (l m : List Ord) : oflat5 (l ++ m) = oflat5 l ++ oflat5 m := by simp [oflat5]
theorem oflat5_get : ∀ (l : List Ord) (i : Nat) (e : Ord) (k : Nat), l[i]? = some e → k < 5 → (oflat5 l)[i * 5 + k]? = (ordv e)[k]?
  | [], i, e, k, h, _ => by simp at h
  | a :: l, 0, e, k, h, hk => by
    simp at h
    subst h
    have e2 : oflat5 (a :: l) = ordv a ++ oflat5 l := rfl
    rw [e2, Nat.zero_mul, Nat.zero_add, List.getElem?_append_left (by simpa [ordv] using hk)]
  | a :: l, i + 1, e, k, h, hk => by
    have ih := oflat5_get l i e k (by simpa using h) hk
    have e2 : oflat5 (a :: l) = ordv a ++ oflat5 l := rfl
    rw [e2, List.getElem?_append_right (by simp [ordv]; omega), ← ih]
    congr 1
    simp [ordv]
    omega
theorem ordv_one (e : Ord) : ∀ u ∈ ordv e, u.oneCell' = true := by
  intro u hu
  simp only [ordv, List.mem_cons, List.not_mem_nil, or_false] at hu
  rcases hu with rfl | rfl | rfl | rfl | rfl <;> rfl
/-- v is a row of these orders, in memory from B on. -/
abbrev ORow (w : World) (B : Nat) (v : Value) (l : List Ord) : Prop := w.ownsRow B 37 5 v l.length (oflat5 l)
theorem ORow.nil (w : World) (B : Nat) : ORow w B (.slice none 0 0) [] := World.ownsRow_nil _ _ _ _
theorem ORow.keep {w w' : World} {B : Nat} {v : Value} {l : List Ord} (h : ORow w B v l) (hb : Below w.heap.size w w') : ORow w' B v l := h.kept (only_of_below hb none) (by
  cases hv : v.ownBlock with
  | none => exact .inl rfl
  | some g => exact .inr (fun e => by cases e))
theorem ORow.far {w w' : World} {B k : Nat} {v : Value} {l : List Ord} (h : ORow w B v l) (hg : w.grownBy w' (some k)) (hk : k < B) : ORow w' B v l := h.kept hg (by
  cases hv : v.ownBlock with
  | none => exact .inl rfl
  | some g => exact .inr (fun e => by have := (h.lt g hv).1; cases e; omega))
theorem ORow.form {w : World} {B : Nat} {v : Value} {l : List Ord} (h : ORow w B v l) : ∃ A c, v = .slice A l.length c ∧ l.length ≤ c ∧ c ≤ 9223372036854775807 ∧ Ords w w.heap.size A l := by
  rcases id h.2 with ⟨rfl, hl⟩ | ⟨g, cap, cur, rfl, h1, h2, h3, h4, _⟩
  · have he : l = [] := List.eq_nil_of_length_eq_zero hl
    subst he
    exact ⟨none, 0, rfl, Nat.le_refl _, by omega, Ords.nil⟩
  · refine ⟨_, cap, rfl, h3, by simp only [maxLen] at h4; omega, fun hl => ⟨g, 0, rfl, (h.lt g rfl).2, fun i e hi => ?_⟩⟩
    have hlt := (List.getElem?_eq_some_iff.1 hi).1
    have key : ∀ k, k < 5 → w.cell? ⟨g, i * 5 + k, none⟩ = (ordv e)[k]? := fun k hk => by
      rw [h.cellAt (i * 5 + k) (by omega)]
      exact oflat5_get l i e k hi hk
    rw [Nat.zero_add]
    exact ⟨key 0 (by omega), key 1 (by omega), key 2 (by omega), key 3 (by omega), key 4 (by omega)⟩
/-- One more order. -/
theorem ORow.snoc {W : World} {B : Nat} {v : Value} {l : List Ord} (h : ORow W B v l) (e : Ord) (hn : l.length < 1000000) (hB : B ≤ W.heap.size) {H : Nat} (hH : W.heap.size = H) :
    ∃ v' w', (Builtin.append_ #[22, 22] 22 #[v, .slice (some ⟨H, 0, none⟩) 1 1]).run Try.prog (W.alloc (.cells (ordv e).toArray 37)) = .ok v' w' ∧ ORow w' B v' (l ++ [e]) ∧ W.grownBy w' v.ownBlock := by
  obtain ⟨v', w', hr, ho, hg, _⟩ := append_one (P := Try.prog) 22 Try.underlying22 ord_info rfl (by omega) h (ordv e) rfl (ordv_one e) (by simp only [maxLen]; omega) (by omega) hB hH
  refine ⟨v', w', hr, ?_, hg⟩
  unfold ORow
  rw [List.length_append, oflat5_app]
  simpa [oflat5] using ho
theorem ord_ext {a b : Ord} (h0 : a.id = b.id) (h1 : a.stream = b.stream) (h2 : a.expect = b.expect) (h3 : a.kind = b.kind) (h4 : a.arg = b.arg) : a = b := by
  cases a; cases b; simp_all
theorem neq_ord (w : World) (e : Ord) : (binOp .neq 37 (.agg (ordv e).toArray) (.agg (ordv e).toArray)).run Try.prog w = .ok (.bool false) w := by
  have g0 := Try.underlying37
  simp [ordv, go_sem]
end Go.Proofs.Ytlineikeafepcaa
