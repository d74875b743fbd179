/-
  The walk over 'Same' at like outcomes.
-/
import Derived.Test.YtlineikeafepcaaProg
import Derived.Test.YtlineikeafepcaaSeq
import Derived.WalkKit
import Derived.WalkSpells
import Derived.WalkLawsBesides
import Derived.RowKit3
import Derived.Lib.Hide
import Derived.Test.YtlineikeafepcaaRef12Any
set_option linter.unusedSimpArgs false
set_option linter.unusedVariables false
set_option maxRecDepth 100000
namespace Go.Proofs.Ytlineikeafepcaa
open Go.RowKit Go.Sq Go.Arch

set_option maxHeartbeats 1000000 in
theorem same_nil (c v : Int) (w : World) :
    Calls Try.prog 18 #[.agg #[.int .i64 c, .int .i64 v, .slice none 0 0], .agg #[.int .i64 c, .int .i64 v, .slice none 0 0]] w fun e w' => e = .returned (.bool true) ∧ Below w.heap.size w w' := by
  have hc : (c != c) = false := by simp
  have hv : (v != v) = false := by simp
  go_enter Try.func18, Try.ntmps18
  go_wp2_with fail
  refine wp_loop_rounds 1 ?_
  rw [rounds_succ]
  go_wp2_with fail
  go_ret
  exact ⟨rfl, by (repeat (first | with_reducible apply Below.drew | with_reducible refine Below.setCell ?_ (by first | exact Nat.le_refl _ | (simp; done) | (simp; omega) | omega) _ | with_reducible refine Below.alloc ?_ (by first | exact Nat.le_refl _ | (simp; done) | (simp; omega) | omega) _ | with_reducible exact Below.refl _ _ | with_reducible assumption))⟩

set_option maxHeartbeats 1000000 in
theorem same_one (c v k a : Int) (g1 g2 : Nat) (w : World) (b1 : g1 < w.heap.size) (b2 : g2 < w.heap.size)
    (c1 : w.cell? ⟨g1, 0, none⟩ = some (.int .i64 k)) (c2 : w.cell? ⟨g1, 1, none⟩ = some (.int .i64 a))
    (d1 : w.cell? ⟨g2, 0, none⟩ = some (.int .i64 k)) (d2 : w.cell? ⟨g2, 1, none⟩ = some (.int .i64 a)) :
    Calls Try.prog 18 #[.agg #[.int .i64 c, .int .i64 v, .slice (some ⟨g1, 0, none⟩) 1 1], .agg #[.int .i64 c, .int .i64 v, .slice (some ⟨g2, 0, none⟩) 1 1]] w fun e w' => e = .returned (.bool true) ∧ Below w.heap.size w w' := by
  have hc : (c != c) = false := by simp
  have hv : (v != v) = false := by simp
  go_enter Try.func18, Try.ntmps18
  go_wp2_with fail
  refine wp_loop_rounds 2 ?_
  rw [rounds_succ]
  go_wp2_with fail
  refine wp_region_all (fun w' => Keeps (w.heap.size + 2) [(⟨w.heap.size, 0, none⟩, .int .i64 c), (⟨w.heap.size, 1, none⟩, .int .i64 v), (⟨w.heap.size, 2, none⟩, .slice (some ⟨g1, 0, none⟩) 1 1), (⟨w.heap.size + 1, 0, none⟩, .int .i64 c), (⟨w.heap.size + 1, 1, none⟩, .int .i64 v), (⟨w.heap.size + 1, 2, none⟩, .slice (some ⟨g2, 0, none⟩) 1 1)] w w') (by kernel_rfl) (by kernel_rfl) (by refine ⟨?_, by first | (simp; done) | (simp; omega) | omega, by first | (simp [List.forall_mem_cons]; done) | (simp [List.forall_mem_cons]; omega), by simp [cellsAre_cons, cellsAre_nil, go_sem, World.cell?_alloc_past, *]⟩; (repeat (first | with_reducible apply Below.drew | with_reducible refine Below.setCell ?_ (by first | exact Nat.le_refl _ | (simp; done) | (simp; omega) | omega) _ | with_reducible refine Below.alloc ?_ (by first | exact Nat.le_refl _ | (simp; done) | (simp; omega) | omega) _ | with_reducible exact Below.refl _ _ | with_reducible assumption))) rfl ?_
  intro K T hK hT hT'
  simp only [List.map] at hK ⊢
  go_wp2_with (first
    | (apply SeqD.skip; rfl; simp only [Act.put, List.setIfInBounds_toArray, List.set_cons_zero, List.set_cons_succ])
    | (apply SeqD.call; rfl; rfl; (intro w2 hw; obtain ⟨h1, h2, h3, h4⟩ := hT _ hw; simp only [cellsAre_cons, cellsAre_nil, and_true] at h4; (have e1 := (h1.cell (p := ⟨g1, 0, none⟩) b1).trans c1; have e2 := (h1.cell (p := ⟨g1, 1, none⟩) b1).trans c2; have e3 := (h1.cell (p := ⟨g2, 0, none⟩) b2).trans d1; have e4 := (h1.cell (p := ⟨g2, 1, none⟩) b2).trans d2); go_simp; exact ⟨rfl, rfl⟩); (intro w2 hw; obtain ⟨h1, h2, h3, h4⟩ := hT _ hw; simp only [cellsAre_cons, cellsAre_nil, and_true] at h4; (have e1 := (h1.cell (p := ⟨g1, 0, none⟩) b1).trans c1; have e2 := (h1.cell (p := ⟨g1, 1, none⟩) b1).trans c2; have e3 := (h1.cell (p := ⟨g2, 0, none⟩) b2).trans d1; have e4 := (h1.cell (p := ⟨g2, 1, none⟩) b2).trans d2); (first | fail)); simp only [Act.put, List.setIfInBounds_toArray, List.set_cons_zero, List.set_cons_succ])
    | (apply SeqD.pure; rfl; (intro w2 hw; obtain ⟨h1, h2, h3, h4⟩ := hT _ hw; simp only [cellsAre_cons, cellsAre_nil, and_true] at h4; (have e1 := (h1.cell (p := ⟨g1, 0, none⟩) b1).trans c1; have e2 := (h1.cell (p := ⟨g1, 1, none⟩) b1).trans c2; have e3 := (h1.cell (p := ⟨g2, 0, none⟩) b2).trans d1; have e4 := (h1.cell (p := ⟨g2, 1, none⟩) b2).trans d2); go_simp; with_reducible rfl); simp only [Act.put, List.setIfInBounds_toArray, List.set_cons_zero, List.set_cons_succ])
    | (apply SeqD.split; rfl; rfl; all_goals (intro hc; simp only [hc]; try simp only [beq_iff_eq, decide_eq_true_eq, beq_eq_false_iff_ne, decide_eq_false_iff_not, bne_iff_ne, ne_eq, Bool.not_eq_true', Bool.not_eq_false', Int.not_le, Int.not_lt, bne_eq_false_iff_eq] at hc)))
  all_goals (apply SeqD.nil; refine hK _ ?_; intro w2 hw; obtain ⟨h1, h2, h3, h4⟩ := id hw; simp only [cellsAre_cons, cellsAre_nil, and_true] at h4; clear hT hT' hK)
  go_wp2_with fail
  rw [rounds_succ]
  go_wp2_with fail
  go_ret
  exact ⟨rfl, h1⟩

end Go.Proofs.Ytlineikeafepcaa
