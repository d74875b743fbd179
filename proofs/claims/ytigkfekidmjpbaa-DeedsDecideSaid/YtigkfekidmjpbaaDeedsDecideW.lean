/-
  The walk over the statement 'DeedsDecide'.
-/
import Derived.Test.YtigkfekidmjpbaaProg
import Derived.Test.YtigkfekidmjpbaaSeq
import Derived.WalkKit
import Derived.WalkSpells
import Derived.WalkLawsBesides
import Derived.RowKit3
import Derived.Lib.Hide
import Derived.Test.YtigkfekidmjpbaaWorks12
import Derived.Deep.RegionHeld3
import Derived.Deep.DrawnRows
set_option linter.unusedSimpArgs false
set_option linter.unusedVariables false
namespace Go.Proofs.Ytigkfekidmjpbaa
open Go.RowKit Go.Sq Go.Arch
attribute [local go_sem ↓] Go.wp_at_zero Go.wp_at_succ

set_option maxHeartbeats 4000000 in
theorem law_decide_no (t s v x0 x1 x2 x3 x4 : Int) (c : Bool) (w : World) (h : codeS ⟨t, c, s, v⟩ ⟨x0, x1, x2, x3, x4⟩ ≠ 1) :
    Calls Try.prog 7 #[.agg #[.int .i64 t, .bool c, .int .i64 s, .int .i64 v], .agg #[.int .i64 x0, .int .i64 x1, .int .i64 x2, .int .i64 x3, .int .i64 x4]] w fun e w' => e = .returned (.bool true) ∧ Below w.heap.size w w' := by
  obtain ⟨cd, vr, h1, h2⟩ : ∃ cd vr : Int, (∀ w, Calls Try.prog 24 #[.agg #[.int .i64 t, .bool c, .int .i64 s, .int .i64 v], .agg #[.int .i64 x0, .int .i64 x1, .int .i64 x2, .int .i64 x3, .int .i64 x4]] w fun e w' => e = .returned (.agg #[.int .i64 cd, .int .i64 vr, .slice none 0 0]) ∧ Below w.heap.size w w') ∧
      (∀ w, Calls Try.prog 25 #[.agg #[.int .i64 t, .bool c, .int .i64 s, .int .i64 v], .agg #[.int .i64 x0, .int .i64 x1, .int .i64 x2, .int .i64 x3, .int .i64 x4]] w fun e w' => e = .returned (.agg #[.int .i64 cd, .int .i64 vr, .slice none 0 0]) ∧ Below w.heap.size w w') :=
    ⟨_, _, fun w => decide_no t s v x0 x1 x2 x3 x4 c w h, fun w => ref_decide_no t s v x0 x1 x2 x3 x4 c w h⟩
  have D := Lib.hid h1
  have R := Lib.hid h2
  clear h1 h2 h
  go_enter Try.func7, Try.ntmps7
  go_wp2_with fail
  refine (D.out _).mono ?_
  rintro e w1 ⟨rfl, hb⟩
  have hk_new : Keeps (w.heap.size + 2) [(⟨w.heap.size, 0, none⟩, .int .i64 t), (⟨w.heap.size, 1, none⟩, .bool c), (⟨w.heap.size, 2, none⟩, .int .i64 s), (⟨w.heap.size, 3, none⟩, .int .i64 v), (⟨w.heap.size + 1, 0, none⟩, .int .i64 x0), (⟨w.heap.size + 1, 1, none⟩, .int .i64 x1), (⟨w.heap.size + 1, 2, none⟩, .int .i64 x2), (⟨w.heap.size + 1, 3, none⟩, .int .i64 x3), (⟨w.heap.size + 1, 4, none⟩, .int .i64 x4)] w w1 := by
    refine Keeps.below ⟨?_, by first | (simp; done) | (simp; omega) | omega, by first | (simp [List.forall_mem_cons]; done) | (simp [List.forall_mem_cons]; omega), by simp [cellsAre_cons, cellsAre_nil, go_sem, World.cell?_alloc_past, *]⟩ hb
    (repeat (first | with_reducible apply Below.drew | with_reducible refine Below.setCell ?_ (by first | exact Nat.le_refl _ | (simp; done) | (simp; omega) | omega) _ | with_reducible refine Below.alloc ?_ (by first | exact Nat.le_refl _ | (simp; done) | (simp; omega) | omega) _ | with_reducible exact Below.refl _ _ | with_reducible assumption))
  clear hb
  try clear hk
  have hk := hk_new
  clear hk_new
  have hk' := hk
  obtain ⟨h1, h2, h3, h4⟩ := hk'
  simp only [cellsAre_cons, cellsAre_nil, and_true] at h4
  have lta_0 : w.heap.size < w1.heap.size := by omega
  have nea_0 : ¬ w.heap.size = w1.heap.size := by omega
  have nfa_0 : ¬ w1.heap.size = w.heap.size := by omega
  have lta_1 : w.heap.size + 1 < w1.heap.size := by omega
  have nea_1 : ¬ w.heap.size + 1 = w1.heap.size := by omega
  have nfa_1 : ¬ w1.heap.size = w.heap.size + 1 := by omega
  have h2a := h2
  go_wp2_with fail
  refine (R.out _).mono ?_
  rintro e w2 ⟨rfl, hb⟩
  have hk_new : Keeps (w1.heap.size + 1) [(⟨w1.heap.size, 0, none⟩, .int .i64 cd), (⟨w1.heap.size, 1, none⟩, .int .i64 vr), (⟨w1.heap.size, 2, none⟩, .slice none 0 0), (⟨w.heap.size, 0, none⟩, .int .i64 t), (⟨w.heap.size, 1, none⟩, .bool c), (⟨w.heap.size, 2, none⟩, .int .i64 s), (⟨w.heap.size, 3, none⟩, .int .i64 v), (⟨w.heap.size + 1, 0, none⟩, .int .i64 x0), (⟨w.heap.size + 1, 1, none⟩, .int .i64 x1), (⟨w.heap.size + 1, 2, none⟩, .int .i64 x2), (⟨w.heap.size + 1, 3, none⟩, .int .i64 x3), (⟨w.heap.size + 1, 4, none⟩, .int .i64 x4)] w w2 := by
    refine Keeps.below ⟨?_, by first | (simp; done) | (simp; omega) | omega, by first | (simp [List.forall_mem_cons]; done) | (simp [List.forall_mem_cons]; omega), by simp [cellsAre_cons, cellsAre_nil, go_sem, World.cell?_alloc_past, *]⟩ hb
    (repeat (first | with_reducible apply Below.drew | with_reducible refine Below.setCell ?_ (by first | exact Nat.le_refl _ | (simp; done) | (simp; omega) | omega) _ | with_reducible refine Below.alloc ?_ (by first | exact Nat.le_refl _ | (simp; done) | (simp; omega) | omega) _ | with_reducible exact Below.refl _ _ | with_reducible assumption))
  clear hb
  try clear hk
  have hk := hk_new
  clear hk_new
  clear h1 h2 h3 h4
  have hk' := hk
  obtain ⟨h1, h2, h3, h4⟩ := hk'
  simp only [cellsAre_cons, cellsAre_nil, and_true] at h4
  clear lta_0 lta_1
  generalize w1.heap.size = b1 at *
  have ltb_0 : w.heap.size < w2.heap.size := by omega
  have neb_0 : ¬ w.heap.size = w2.heap.size := by omega
  have nfb_0 : ¬ w2.heap.size = w.heap.size := by omega
  have ltb_1 : w.heap.size + 1 < w2.heap.size := by omega
  have neb_1 : ¬ w.heap.size + 1 = w2.heap.size := by omega
  have nfb_1 : ¬ w2.heap.size = w.heap.size + 1 := by omega
  have ltb_2 : b1 < w2.heap.size := by omega
  have neb_2 : ¬ b1 = w2.heap.size := by omega
  have nfb_2 : ¬ w2.heap.size = b1 := by omega
  have h2b := h2
  go_wp2_with fail
  refine (same_nil _ _ _).mono ?_
  rintro e w3 ⟨rfl, hb⟩
  have hk_new : Keeps (w2.heap.size + 1) [(⟨w2.heap.size, 0, none⟩, .int .i64 cd), (⟨w2.heap.size, 1, none⟩, .int .i64 vr), (⟨w2.heap.size, 2, none⟩, .slice none 0 0), (⟨b1, 0, none⟩, .int .i64 cd), (⟨b1, 1, none⟩, .int .i64 vr), (⟨b1, 2, none⟩, .slice none 0 0), (⟨w.heap.size, 0, none⟩, .int .i64 t), (⟨w.heap.size, 1, none⟩, .bool c), (⟨w.heap.size, 2, none⟩, .int .i64 s), (⟨w.heap.size, 3, none⟩, .int .i64 v), (⟨w.heap.size + 1, 0, none⟩, .int .i64 x0), (⟨w.heap.size + 1, 1, none⟩, .int .i64 x1), (⟨w.heap.size + 1, 2, none⟩, .int .i64 x2), (⟨w.heap.size + 1, 3, none⟩, .int .i64 x3), (⟨w.heap.size + 1, 4, none⟩, .int .i64 x4)] w w3 := by
    refine Keeps.below ⟨?_, by first | (simp; done) | (simp; omega) | omega, by first | (simp [List.forall_mem_cons]; done) | (simp [List.forall_mem_cons]; omega), by simp [cellsAre_cons, cellsAre_nil, go_sem, World.cell?_alloc_past, *]⟩ hb
    (repeat (first | with_reducible apply Below.drew | with_reducible refine Below.setCell ?_ (by first | exact Nat.le_refl _ | (simp; done) | (simp; omega) | omega) _ | with_reducible refine Below.alloc ?_ (by first | exact Nat.le_refl _ | (simp; done) | (simp; omega) | omega) _ | with_reducible exact Below.refl _ _ | with_reducible assumption))
  clear hb
  try clear hk
  have hk := hk_new
  clear hk_new
  clear h1 h2 h3 h4
  have hk' := hk
  obtain ⟨h1, h2, h3, h4⟩ := hk'
  simp only [cellsAre_cons, cellsAre_nil, and_true] at h4
  clear ltb_0 ltb_1 ltb_2
  generalize w2.heap.size = b2 at *
  go_wp2_with fail
  refine wp_loop_rounds 1 ?_
  rw [rounds_succ]
  go_wp2_with fail
  refine wp_region_all (fun w' => Keeps (b2 + 1) [(⟨b2, 0, none⟩, .int .i64 cd), (⟨b2, 1, none⟩, .int .i64 vr), (⟨b2, 2, none⟩, .slice none 0 0), (⟨b1, 0, none⟩, .int .i64 cd), (⟨b1, 1, none⟩, .int .i64 vr), (⟨b1, 2, none⟩, .slice none 0 0), (⟨w.heap.size, 0, none⟩, .int .i64 t), (⟨w.heap.size, 1, none⟩, .bool c), (⟨w.heap.size, 2, none⟩, .int .i64 s), (⟨w.heap.size, 3, none⟩, .int .i64 v), (⟨w.heap.size + 1, 0, none⟩, .int .i64 x0), (⟨w.heap.size + 1, 1, none⟩, .int .i64 x1), (⟨w.heap.size + 1, 2, none⟩, .int .i64 x2), (⟨w.heap.size + 1, 3, none⟩, .int .i64 x3), (⟨w.heap.size + 1, 4, none⟩, .int .i64 x4)] w w') (by kernel_rfl) (by kernel_rfl) (by with_reducible apply Keeps.drew; with_reducible assumption) rfl ?_
  intro K T hK hT hT'
  simp only [List.map] at hK ⊢
  go_wp2_with (first
    | (apply SeqD.skip; rfl; simp only [Act.put, List.setIfInBounds_toArray, List.set_cons_zero, List.set_cons_succ])
    | (apply SeqD.call; rfl; rfl; (intro w2 hw; obtain ⟨h1, h2, h3, h4⟩ := hT _ hw; simp only [cellsAre_cons, cellsAre_nil, and_true] at h4; (skip); go_simp; exact ⟨rfl, rfl⟩); (intro w2 hw; obtain ⟨h1, h2, h3, h4⟩ := hT _ hw; simp only [cellsAre_cons, cellsAre_nil, and_true] at h4; (skip); (first | (go_at_call 24; refine (D.out _).mono ?_; rintro e w' ⟨rfl, hb⟩; exact ⟨rfl, hT' _ ((hT _ hw).below hb)⟩) | (go_at_call 26; refine (same_nil _ _ _).mono ?_; rintro e w' ⟨rfl, hb⟩; exact ⟨rfl, hT' _ ((hT _ hw).below hb)⟩) | (go_at_call 27; refine (works_any _).mono ?_; rintro e w' ⟨rfl, hb⟩; exact ⟨rfl, hT' _ ((hT _ hw).below hb)⟩))); simp only [Act.put, List.setIfInBounds_toArray, List.set_cons_zero, List.set_cons_succ])
    | (apply SeqD.pure; rfl; (intro w2 hw; obtain ⟨h1, h2, h3, h4⟩ := hT _ hw; simp only [cellsAre_cons, cellsAre_nil, and_true] at h4; (skip); go_simp; with_reducible rfl); simp only [Act.put, List.setIfInBounds_toArray, List.set_cons_zero, List.set_cons_succ])
    | (apply SeqD.split; rfl; rfl; all_goals (intro hc; simp only [hc]; try simp only [beq_iff_eq, decide_eq_true_eq, beq_eq_false_iff_ne, decide_eq_false_iff_not, bne_iff_ne, ne_eq, Bool.not_eq_true', Bool.not_eq_false', Int.not_le, Int.not_lt, bne_eq_false_iff_eq] at hc)))
  all_goals (apply SeqD.nil; refine hK _ ?_; intro w2 hw; obtain ⟨h1, h2, h3, h4⟩ := id hw; simp only [cellsAre_cons, cellsAre_nil, and_true] at h4; clear hT hT' hK)
  all_goals go_wp2_with fail
  all_goals go_ret
  all_goals exact ⟨by simp, h1⟩
end Go.Proofs.Ytigkfekidmjpbaa
