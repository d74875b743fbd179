/-
  Rows of numbers of the call's own: appended to, read, written.
-/
import Derived.Test.YtlineikeafepcaaRowOps
import Derived.Test.YtlineikeafepcaaOpenNums
set_option linter.unusedSimpArgs false
set_option linter.unusedVariables false
set_option maxRecDepth 100000
namespace Go.Proofs.Ytlineikeafepcaa
open Go Go.RowKit Go.Sq Go.Wd

theorem int_info : (Try.prog.info? 3).map (fun i => (i.zero, i.size, i.bytes)) = some (some (.int .i64 0), 1, 8) := by kernel_rfl
theorem addi_off (b o j : Nat) : (⟨b, o, none⟩ : Addr).add j = ⟨b, o + j, none⟩ := by
  simp [Addr.add]
abbrev RowI (w : World) (B : Nat) (v : Value) (l : List Int) : Prop := w.ownsRow B 3 1 v l.length (l.map (Value.int .i64))
theorem RowI.nil (w : World) (B : Nat) : RowI w B (.slice none 0 0) [] := World.ownsRow_nil _ _ _ _
theorem RowI.keep {w w' : World} {B : Nat} {v : Value} {l : List Int} (h : RowI w B v l) (hb : Below w.heap.size w w') : RowI w' B v l := h.kept (only_of_below hb none) (by
  cases hv : v.ownBlock with
  | none => exact .inl rfl
  | some g => exact .inr (fun e => by cases e))
theorem RowI.form {w : World} {B : Nat} {v : Value} {l : List Int} (h : RowI w B v l) : ∃ A c, v = .slice A l.length c ∧ l.length ≤ c ∧ c ≤ 9223372036854775807 ∧ Nums w w.heap.size A .i64 l := by
  rcases id h.2 with ⟨rfl, hl⟩ | ⟨g, cap, cur, rfl, h1, h2, h3, h4, _⟩
  · have he : l = [] := List.eq_nil_of_length_eq_zero hl
    subst he
    exact ⟨none, 0, rfl, Nat.le_refl _, by omega, fun h => absurd h (by simp)⟩
  · refine ⟨_, cap, rfl, h3, by simp only [maxLen] at h4; omega, fun _ => ⟨g, 0, rfl, (Array.getElem?_eq_some_iff.1 h2).1, fun i x hx => ?_⟩⟩
    have hi := (List.getElem?_eq_some_iff.1 hx).1
    rw [Nat.zero_add, h.cellAt i (by omega), List.getElem?_map, hx]
    rfl
/-- Numbers appended, out of a slice that may be nil. -/
theorem RowI.app {W : World} {B : Nat} {v : Value} {l m : List Int} (h : RowI W B v l) (A : Option Addr) (c : Nat) (ha : Nums W W.heap.size A .i64 m) (hl : l.length + m.length ≤ 2000) (hB : B ≤ W.heap.size) :
    ∃ v' w', (Builtin.append_ #[69, 69] 69 #[v, .slice A m.length c]).run Try.prog W = .ok v' w' ∧ RowI w' B v' (l ++ m) ∧ W.grownBy w' v.ownBlock ∧ (v'.ownBlock = v.ownBlock ∨ v'.ownBlock = some W.heap.size) := by
  obtain ⟨v1, w1, h1, h2, h3, h4⟩ := append_all (P := Try.prog) 69 Try.underlying69 int_info rfl (by omega) h A m.length c (m.map (Value.int .i64)) (by simp) (fun h0 => by
    obtain ⟨b, off, e, hb, hc⟩ := ha h0
    refine ⟨⟨b, off, none⟩, e, fun j u hu => ?_⟩
    rw [List.getElem?_map] at hu
    cases hm : m[j]? with
    | none => rw [hm] at hu; cases hu
    | some x =>
      rw [hm] at hu
      cases hu
      rw [addi_off]
      exact hc j x hm) (fun u hu => by
    obtain ⟨x, _, rfl⟩ := List.mem_map.1 hu
    rfl) (by simp only [maxLen]; omega) (by omega) hB
  refine ⟨v1, w1, h1, ?_, h3, h4⟩
  unfold RowI
  rw [List.length_append, List.map_append]
  exact h2
/-- One number, in a new block. -/
theorem nums_one (w : World) (x : Int) : Nums (w.alloc (.cells #[.int .i64 x] 3)) (w.alloc (.cells #[.int .i64 x] 3)).heap.size (some ⟨w.heap.size, 0, none⟩) .i64 [x] := fun _ => by
  have hb := Blk.new w 3 [.int .i64 x]
  refine ⟨_, 0, rfl, hb.lt, fun i y hy => ?_⟩
  have hi := (List.getElem?_eq_some_iff.1 hy).1
  obtain rfl : i = 0 := by simpa using hi
  cases hy
  exact hb.cell 0
theorem RowI.at_ {w : World} {B g c : Nat} {l : List Int} (h : RowI w B (.slice (some ⟨g, 0, none⟩) l.length c) l) {j : Nat} {x : Int} (hx : l[j]? = some x) : w.cell? ⟨g, j, none⟩ = some (.int .i64 x) := by
  have hi := (List.getElem?_eq_some_iff.1 hx).1
  rw [h.cellAt j (by omega), List.getElem?_map, hx]
  rfl
theorem RowI.set {w : World} {B g c : Nat} {l : List Int} (h : RowI w B (.slice (some ⟨g, 0, none⟩) l.length c) l) (j : Nat) (x : Int) : RowI (w.setCell ⟨g, j, none⟩ (.int .i64 x)) B (.slice (some ⟨g, 0, none⟩) l.length c) (l.set j x) := by
  have := (World.ownsRow.stored h j (.int .i64 x)).1
  unfold RowI
  rw [List.length_set, List.map_set]
  exact this
theorem RowI.empty (w : World) : RowI (w.alloc (.cells #[] 3)) w.heap.size (.slice (some ⟨w.heap.size, 0, none⟩) 0 0) [] := by
  have h := World.ownsRow_made (base := w.heap.size) (e := 3) (size := 1) w #[] 0 (Nat.le_refl _) (by simp [maxLen]) (by simp)
  exact h
/-- The copy of a list of numbers. -/
theorem copyI_run (l : List Int) (A : Option Addr) (c : Nat) (W : World) (ha : Nums W W.heap.size A .i64 l) (hl : l.length ≤ 2000) :
    ∃ v' w', (Builtin.append_ #[69, 69] 69 #[.slice (some ⟨W.heap.size, 0, none⟩) 0 0, .slice A l.length c]).run Try.prog (W.alloc (.cells #[] 3)) = .ok v' w' ∧ RowI w' W.heap.size v' l ∧ Below W.heap.size W w' := by
  have h0 : Below W.heap.size W (W.alloc (.cells #[] 3)) := (Below.refl _ _).alloc (Nat.le_refl _) _
  obtain ⟨v1, w1, h1, h2, h3, _⟩ := RowI.app (RowI.empty W) A c ((ha.below h0).more h0.size) (by simpa using hl) (by simp)
  exact ⟨v1, w1, h1, h2, below_own h0 h3 (RowI.empty W) h0.size⟩
end Go.Proofs.Ytlineikeafepcaa
