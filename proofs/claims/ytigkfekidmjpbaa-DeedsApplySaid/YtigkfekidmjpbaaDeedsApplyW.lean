/-
  The walk over the statement 'DeedsApply'.
-/
import Derived.Test.YtigkfekidmjpbaaProg
import Derived.Test.YtigkfekidmjpbaaSeq
import Derived.WalkKit
import Derived.WalkSpells
import Derived.WalkLawsBesides
import Derived.RowKit3
import Derived.Lib.Hide
import Derived.Test.YtigkfekidmjpbaaWorks12
namespace Go.Proofs.Ytigkfekidmjpbaa
open Go.RowKit Go.Sq Go.Arch

set_option maxHeartbeats 2000000 in
theorem law_apply (t s v k a : Int) (c : Bool) (w : World) :
    Calls Try.prog 8 #[.agg #[.int .i64 t, .bool c, .int .i64 s, .int .i64 v], .agg #[.int .i64 k, .int .i64 a]] w fun e w' => e = .returned (.bool true) ∧ Below w.heap.size w w' := by
  go_enter Try.func8, Try.ntmps8
  go_wp2_with fail
  refine wp_region_all (fun w' => Keeps (w.heap.size + 2) [(⟨w.heap.size, 0, none⟩, .int .i64 t), (⟨w.heap.size, 1, none⟩, .bool c), (⟨w.heap.size, 2, none⟩, .int .i64 s), (⟨w.heap.size, 3, none⟩, .int .i64 v), (⟨w.heap.size + 1, 0, none⟩, .int .i64 k), (⟨w.heap.size + 1, 1, none⟩, .int .i64 a)] w w') (by kernel_rfl) (by kernel_rfl) (by refine ⟨?_, by first | (simp; done) | (simp; omega) | omega, by first | (simp [List.forall_mem_cons]; done) | (simp [List.forall_mem_cons]; omega), by simp [cellsAre_cons, cellsAre_nil, go_sem, World.cell?_alloc_past, *]⟩; (repeat (first | with_reducible apply Below.drew | with_reducible refine Below.setCell ?_ (by first | exact Nat.le_refl _ | (simp; done) | (simp; omega) | omega) _ | with_reducible refine Below.alloc ?_ (by first | exact Nat.le_refl _ | (simp; done) | (simp; omega) | omega) _ | with_reducible exact Below.refl _ _ | with_reducible assumption))) rfl ?_
  intro K T hK hT hT'
  simp only [List.map] at hK ⊢
  go_wp2_with (first
    | (apply SeqD.skip; rfl; simp only [Act.put, List.setIfInBounds_toArray, List.set_cons_zero, List.set_cons_succ])
    | (apply SeqD.call; rfl; rfl; (intro w2 hw; obtain ⟨h1, h2, h3, h4⟩ := hT _ hw; simp only [cellsAre_cons, cellsAre_nil, and_true] at h4; (skip); go_simp; exact ⟨rfl, rfl⟩); (intro w2 hw; obtain ⟨h1, h2, h3, h4⟩ := hT _ hw; simp only [cellsAre_cons, cellsAre_nil, and_true] at h4; (skip); (first | (go_at_call 28; refine (apply_any _ _ _ _ _ _ _).mono ?_; rintro e w' ⟨rfl, hb⟩; exact ⟨rfl, hT' _ ((hT _ hw).below hb)⟩) | (go_at_call 29; refine (ref_apply_any _ _ _ _ _ _ _).mono ?_; rintro e w' ⟨rfl, hb⟩; exact ⟨rfl, hT' _ ((hT _ hw).below hb)⟩) | (go_at_call 27; refine (works_any _).mono ?_; rintro e w' ⟨rfl, hb⟩; exact ⟨rfl, hT' _ ((hT _ hw).below hb)⟩))); simp only [Act.put, List.setIfInBounds_toArray, List.set_cons_zero, List.set_cons_succ])
    | (apply SeqD.pure; rfl; (intro w2 hw; obtain ⟨h1, h2, h3, h4⟩ := hT _ hw; simp only [cellsAre_cons, cellsAre_nil, and_true] at h4; (skip); go_simp; with_reducible rfl); simp only [Act.put, List.setIfInBounds_toArray, List.set_cons_zero, List.set_cons_succ])
    | (apply SeqD.split; rfl; rfl; all_goals (intro hc; simp only [hc]; try simp only [beq_iff_eq, decide_eq_true_eq, beq_eq_false_iff_ne, decide_eq_false_iff_not, bne_iff_ne, ne_eq, Bool.not_eq_true', Bool.not_eq_false', Int.not_le, Int.not_lt, bne_eq_false_iff_eq] at hc)))
  all_goals (apply SeqD.nil; refine hK _ ?_; intro w2 hw; obtain ⟨h1, h2, h3, h4⟩ := id hw; simp only [cellsAre_cons, cellsAre_nil, and_true] at h4; clear hT hT' hK)
  all_goals go_wp2_with fail
  all_goals go_ret
  all_goals exact ⟨by simp, h1⟩
end Go.Proofs.Ytigkfekidmjpbaa
