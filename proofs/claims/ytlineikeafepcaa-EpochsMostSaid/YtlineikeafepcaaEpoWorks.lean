/-
  The walk over chapter 6's examples.
-/
import Derived.Test.YtlineikeafepcaaEpoNext
import Derived.Test.YtlineikeafepcaaEpoLaw
set_option linter.unusedSimpArgs false
set_option linter.unusedVariables false
set_option maxRecDepth 100000
namespace Go.Proofs.Ytlineikeafepcaa
open Go Go.RowKit Go.Sq Go.Wd

theorem nums_of {w : World} {g : Nat} {T : TypeId} {l : List Int} (h : Blk w g T (l.map (Value.int .i64))) : Nums w w.heap.size (some ⟨g, 0, none⟩) .i64 l := fun _ => by
  refine ⟨g, 0, rfl, h.lt, fun i x hx => ?_⟩
  rw [Nat.zero_add]
  have := h.cell i
  rw [List.getElem?_map, hx] at this
  exact this
theorem next_a : nextE 3 2 3 = (6, 0) := by decide
theorem next_b : nextE 1048576 0 3 = (0, 3) := by decide
theorem of_a : ofE 4 3 = 0 := by decide
theorem of_b : ofE 0 3 = -1 := by decide
theorem maj_a : majE 4 = 3 := by decide

theorem works_any (w : World) : Calls Try.prog 34 #[] w fun e w' => e = .returned (.bool true) ∧ Below w.heap.size w w' := by
  have hw := Below.refl w.heap.size w
  have h1 := next_any 3 2 3 w
  have h2 := next_any 1048576 0 3 w
  have hb1 : Below w.heap.size w (w.alloc (.cells ([5, 1, 9].map (Value.int .i64)).toArray 3)) := hw.alloc (Nat.le_refl _) _
  have h3 := most_any [5, 1, 9] (some ⟨w.heap.size, 0, none⟩) 3 3 _ (nums_of (Blk.new w 3 ([5, 1, 9].map (Value.int .i64)))) (by decide)
  rw [next_a] at h1
  rw [next_b] at h2
  rw [most_a] at h3
  have HH := Lib.hid (And.intro h1 (And.intro h2 (And.intro h3 hb1)))
  clear h1 h2 h3 hb1
  go_enter Try.func34, Try.ntmps34
  go_wp2_with fail
  refine HH.out.1.mono ?_
  rintro e w1 ⟨rfl, rfl⟩
  go_wp2_with fail
  refine HH.out.2.1.mono ?_
  rintro e w2 ⟨rfl, rfl⟩
  go_wp2_with fail
  refine HH.out.2.2.1.mono ?_
  rintro e w3 ⟨rfl, hb⟩
  have hw3 := below_trans HH.out.2.2.2 hb HH.out.2.2.2.size
  have hz3 := hw3.size
  have h4 := most_any [5] (some ⟨w3.heap.size, 0, none⟩) 1 3 _ (nums_of (Blk.new w3 3 ([5].map (Value.int .i64)))) (by decide)
  rw [most_b] at h4
  have hb4 : Below w3.heap.size w3 (w3.alloc (.cells ([5].map (Value.int .i64)).toArray 3)) := (Below.refl _ _).alloc (Nat.le_refl _) _
  have H4 := Lib.hid (And.intro h4 hb4)
  clear h4 hb4 HH hb
  go_wp2_with fail
  refine H4.out.1.mono ?_
  rintro e w4 ⟨rfl, hb⟩
  have hb4 := below_trans H4.out.2 hb H4.out.2.size
  have hw4 := below_trans hw3 hb4 hz3
  clear H4 hb hb4 hw3 hz3
  go_wp2_with fail
  refine (of_any 4 3 _).mono ?_
  rintro e w5 ⟨rfl, rfl⟩
  rw [of_a]
  go_wp2_with fail
  refine (of_any 0 3 _).mono ?_
  rintro e w6 ⟨rfl, rfl⟩
  rw [of_b]
  go_wp2_with fail
  refine (maj_any 4 _).mono ?_
  rintro e w7 ⟨rfl, rfl⟩
  rw [maj_a]
  go_wp2_with fail
  go_ret
  exact ⟨rfl, hw4⟩
end Go.Proofs.Ytlineikeafepcaa
