/-
  The walk over 'behind': a state behind an outcome's events.
-/
import Derived.Test.YtigkfekidmjpbaaProg
import Derived.Test.YtigkfekidmjpbaaSeq
import Derived.WalkKit
import Derived.WalkSpells
import Derived.WalkLawsBesides
import Derived.RowKit3
import Derived.Lib.Hide
import Derived.Test.YtigkfekidmjpbaaWorks12
set_option linter.unusedSimpArgs false
set_option linter.unusedVariables false
namespace Go.Proofs.Ytigkfekidmjpbaa
open Go.RowKit Go.Sq Go.Arch

set_option maxHeartbeats 1000000 in
theorem behind_nil (t s v cd vr : Int) (c : Bool) (w : World) :
    Calls Try.prog 31 #[.agg #[.int .i64 t, .bool c, .int .i64 s, .int .i64 v], .agg #[.int .i64 cd, .int .i64 vr, .slice none 0 0]] w fun e w' =>
      e = .returned (.agg #[.int .i64 t, .bool c, .int .i64 s, .int .i64 v]) ∧ Below w.heap.size w w' := by
  go_enter Try.func31, Try.ntmps31
  go_wp2_with fail
  refine wp_loop_rounds 1 ?_
  rw [rounds_succ]
  go_wp2_with fail
  apply ret_of
  · simp only [results, Try.results31]
    go_simp
    with_reducible rfl
  refine ⟨rfl, ?_⟩
  exact ⟨rfl, by (repeat (first | with_reducible apply Below.drew | with_reducible refine Below.setCell ?_ (by first | exact Nat.le_refl _ | (simp; done) | (simp; omega) | omega) _ | with_reducible refine Below.alloc ?_ (by first | exact Nat.le_refl _ | (simp; done) | (simp; omega) | omega) _ | with_reducible exact Below.refl _ _ | with_reducible assumption))⟩

set_option maxHeartbeats 1000000 in
theorem behind_one (t s v cd vr k a : Int) (c : Bool) (g : Nat) (w : World) (b1 : g < w.heap.size)
    (c1 : w.cell? ⟨g, 0, none⟩ = some (.int .i64 k)) (c2 : w.cell? ⟨g, 1, none⟩ = some (.int .i64 a)) :
    Calls Try.prog 31 #[.agg #[.int .i64 t, .bool c, .int .i64 s, .int .i64 v], .agg #[.int .i64 cd, .int .i64 vr, .slice (some ⟨g, 0, none⟩) 1 1]] w fun e w' =>
      e = .returned (.agg #[.int .i64 (applyS ⟨t, c, s, v⟩ ⟨k, a⟩).tag, .bool (applyS ⟨t, c, s, v⟩ ⟨k, a⟩).closed, .int .i64 (applyS ⟨t, c, s, v⟩ ⟨k, a⟩).sum, .int .i64 (applyS ⟨t, c, s, v⟩ ⟨k, a⟩).ver]) ∧ Below w.heap.size w w' := by
  have A := Lib.hid (fun w => apply_any t s v k a c w)
  generalize applyS ⟨t, c, s, v⟩ ⟨k, a⟩ = p at A ⊢
  obtain ⟨pt, pc, ps, pv⟩ := p
  dsimp only at A ⊢
  go_enter Try.func31, Try.ntmps31
  go_wp2_with fail
  refine wp_loop_rounds 2 ?_
  rw [rounds_succ]
  go_wp2_with fail
  refine wp_region_sq 7 (fun w' => Keeps (w.heap.size + 3) [(⟨w.heap.size, 0, none⟩, .int .i64 t), (⟨w.heap.size, 1, none⟩, .bool c), (⟨w.heap.size, 2, none⟩, .int .i64 s), (⟨w.heap.size, 3, none⟩, .int .i64 v), (⟨w.heap.size + 1, 0, none⟩, .int .i64 cd), (⟨w.heap.size + 1, 1, none⟩, .int .i64 vr), (⟨w.heap.size + 1, 2, none⟩, .slice (some ⟨g, 0, none⟩) 1 1), (⟨w.heap.size + 2, 0, none⟩, .int .i64 0), (⟨w.heap.size + 2, 1, none⟩, .bool false), (⟨w.heap.size + 2, 2, none⟩, .int .i64 0), (⟨w.heap.size + 2, 3, none⟩, .int .i64 0)] w w') (by kernel_rfl) (by kernel_rfl) (by kernel_rfl) (by refine ⟨?_, by first | (simp; done) | (simp; omega) | omega, by first | (simp [List.forall_mem_cons]; done) | (simp [List.forall_mem_cons]; omega), by simp [cellsAre_cons, cellsAre_nil, go_sem, World.cell?_alloc_past, *]⟩; (repeat (first | with_reducible apply Below.drew | with_reducible refine Below.setCell ?_ (by first | exact Nat.le_refl _ | (simp; done) | (simp; omega) | omega) _ | with_reducible refine Below.alloc ?_ (by first | exact Nat.le_refl _ | (simp; done) | (simp; omega) | omega) _ | with_reducible exact Below.refl _ _ | with_reducible assumption))) rfl ?_
  intro K T hK hT hT'
  simp only [List.map, List.take, List.drop] at hK ⊢
  go_wp2_with (first
    | (apply SeqD.skip; rfl; simp only [Act.put, List.setIfInBounds_toArray, List.set_cons_zero, List.set_cons_succ])
    | (apply SeqD.call; rfl; rfl; (intro w2 hw; obtain ⟨h1, h2, h3, h4⟩ := hT _ hw; simp only [cellsAre_cons, cellsAre_nil, and_true] at h4; (have e1 := (h1.cell (p := ⟨g, 0, none⟩) b1).trans c1; have e2 := (h1.cell (p := ⟨g, 1, none⟩) b1).trans c2); go_simp; exact ⟨rfl, rfl⟩); (intro w2 hw; obtain ⟨h1, h2, h3, h4⟩ := hT _ hw; simp only [cellsAre_cons, cellsAre_nil, and_true] at h4; (have e1 := (h1.cell (p := ⟨g, 0, none⟩) b1).trans c1; have e2 := (h1.cell (p := ⟨g, 1, none⟩) b1).trans c2); (first | (go_at_call 28; refine (A.out _).mono ?_; rintro e w' ⟨rfl, hb⟩; exact ⟨rfl, hT' _ ((hT _ hw).below hb)⟩))); simp only [Act.put, List.setIfInBounds_toArray, List.set_cons_zero, List.set_cons_succ])
    | (apply SeqD.pure; rfl; (intro w2 hw; obtain ⟨h1, h2, h3, h4⟩ := hT _ hw; simp only [cellsAre_cons, cellsAre_nil, and_true] at h4; (have e1 := (h1.cell (p := ⟨g, 0, none⟩) b1).trans c1; have e2 := (h1.cell (p := ⟨g, 1, none⟩) b1).trans c2); go_simp; with_reducible rfl); simp only [Act.put, List.setIfInBounds_toArray, List.set_cons_zero, List.set_cons_succ])
    | (apply SeqD.split; rfl; rfl; all_goals (intro hc; simp only [hc]; try simp only [beq_iff_eq, decide_eq_true_eq, beq_eq_false_iff_ne, decide_eq_false_iff_not, bne_iff_ne, ne_eq, Bool.not_eq_true', Bool.not_eq_false', Int.not_le, Int.not_lt, bne_eq_false_iff_eq] at hc)))
  all_goals (apply SeqD.nil; refine hK _ ?_; clear hT hT' hK; intro w2 hw; obtain ⟨h1, h2, h3, h4⟩ := id hw; simp only [cellsAre_cons, cellsAre_nil, and_true] at h4)
  go_wp2_with fail
  rw [rounds_succ]
  go_wp2_with fail
  apply ret_of
  · simp only [results, Try.results31]
    go_simp
    with_reducible rfl
  refine ⟨rfl, ?_⟩
  exact ⟨rfl, by (repeat (first | with_reducible apply Below.drew | with_reducible refine Below.setCell ?_ (by first | exact Nat.le_refl _ | (simp; done) | (simp; omega) | omega) _ | with_reducible refine Below.alloc ?_ (by first | exact Nat.le_refl _ | (simp; done) | (simp; omega) | omega) _ | with_reducible exact Below.refl _ _ | with_reducible assumption))⟩
end Go.Proofs.Ytigkfekidmjpbaa
