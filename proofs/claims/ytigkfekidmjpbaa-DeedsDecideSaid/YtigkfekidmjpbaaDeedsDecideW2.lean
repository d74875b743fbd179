/-
  The walk over the statement 'DeedsDecide'.
-/
import Derived.Test.YtigkfekidmjpbaaProg
import Derived.Test.YtigkfekidmjpbaaSeq
import Derived.WalkKit
import Derived.WalkSpells
import Derived.WalkLawsBesides
import Derived.RowKit3
import Derived.Lib.Hide
import Derived.Test.YtigkfekidmjpbaaWorks12
import Derived.Deep.RegionHeld3
import Derived.Deep.DrawnRows
set_option linter.unusedSimpArgs false
set_option linter.unusedVariables false
namespace Go.Proofs.Ytigkfekidmjpbaa
open Go.RowKit Go.Sq Go.Arch
attribute [local go_sem ↓] Go.wp_at_zero Go.wp_at_succ
theorem held_mk {A B : Prop} (ha : A) (hb : A → B) : A ∧ B := ⟨ha, hb ha⟩

set_option maxHeartbeats 8000000 in
theorem law_decide_yes (t s v x0 x1 x2 x3 x4 : Int) (c : Bool) (w : World) (h : codeS ⟨t, c, s, v⟩ ⟨x0, x1, x2, x3, x4⟩ = 1) :
    Calls Try.prog 7 #[.agg #[.int .i64 t, .bool c, .int .i64 s, .int .i64 v], .agg #[.int .i64 x0, .int .i64 x1, .int .i64 x2, .int .i64 x3, .int .i64 x4]] w fun e w' => e = .returned (.bool true) ∧ Below w.heap.size w w' := by
  obtain ⟨aa, h1, h2⟩ : ∃ aa : Int, (∀ w, Calls Try.prog 24 #[.agg #[.int .i64 t, .bool c, .int .i64 s, .int .i64 v], .agg #[.int .i64 x0, .int .i64 x1, .int .i64 x2, .int .i64 x3, .int .i64 x4]] w fun e w' => OutNew w w' (v + 1) x3 aa e) ∧
      (∀ w, Calls Try.prog 25 #[.agg #[.int .i64 t, .bool c, .int .i64 s, .int .i64 v], .agg #[.int .i64 x0, .int .i64 x1, .int .i64 x2, .int .i64 x3, .int .i64 x4]] w fun e w' => OutNew w w' (v + 1) x3 aa e) :=
    ⟨_, fun w => decide_yes t s v x0 x1 x2 x3 x4 c w h, fun w => ref_decide_yes t s v x0 x1 x2 x3 x4 c w h⟩
  have D := Lib.hid h1
  have R := Lib.hid h2
  clear h1 h2 h
  go_enter Try.func7, Try.ntmps7
  go_wp2_with fail
  refine (D.out _).mono ?_
  rintro e w1 ho
  obtain ⟨g1, rfl, hg1_g1, hg2_g1, hg3_g1, hg4_g1, hg5_g1, hg6_g1, hb⟩ := ho
  have hk0 : Keeps (w.heap.size + 2) [(⟨w.heap.size, 0, none⟩, .int .i64 t), (⟨w.heap.size, 1, none⟩, .bool c), (⟨w.heap.size, 2, none⟩, .int .i64 s), (⟨w.heap.size, 3, none⟩, .int .i64 v), (⟨w.heap.size + 1, 0, none⟩, .int .i64 x0), (⟨w.heap.size + 1, 1, none⟩, .int .i64 x1), (⟨w.heap.size + 1, 2, none⟩, .int .i64 x2), (⟨w.heap.size + 1, 3, none⟩, .int .i64 x3), (⟨w.heap.size + 1, 4, none⟩, .int .i64 x4)] w w1 := by
    refine Keeps.below ⟨?_, by first | (simp; done) | (simp; omega) | omega, by first | (simp [List.forall_mem_cons]; done) | (simp [List.forall_mem_cons]; omega), by simp [cellsAre_cons, cellsAre_nil, go_sem, World.cell?_alloc_past, *]⟩ hb
    (repeat (first | with_reducible apply Below.drew | with_reducible refine Below.setCell ?_ (by first | exact Nat.le_refl _ | (simp; done) | (simp; omega) | omega) _ | with_reducible refine Below.alloc ?_ (by first | exact Nat.le_refl _ | (simp; done) | (simp; omega) | omega) _ | with_reducible exact Below.refl _ _ | with_reducible assumption))
  simp at hg1_g1
  have hk_new : Keeps (w1.heap.size) ([(⟨g1, 0, none⟩, .int .i64 x3), (⟨g1, 1, none⟩, .int .i64 aa)] ++ [(⟨w.heap.size, 0, none⟩, .int .i64 t), (⟨w.heap.size, 1, none⟩, .bool c), (⟨w.heap.size, 2, none⟩, .int .i64 s), (⟨w.heap.size, 3, none⟩, .int .i64 v), (⟨w.heap.size + 1, 0, none⟩, .int .i64 x0), (⟨w.heap.size + 1, 1, none⟩, .int .i64 x1), (⟨w.heap.size + 1, 2, none⟩, .int .i64 x2), (⟨w.heap.size + 1, 3, none⟩, .int .i64 x3), (⟨w.heap.size + 1, 4, none⟩, .int .i64 x4)]) w w1 :=
    Keeps.more hk0 hk0.2.1 (Nat.le_refl _) (by simp [hg2_g1]) (by simp [cellsAre_cons, cellsAre_nil, hg3_g1, hg4_g1, hg5_g1, hg6_g1])
  simp only [List.cons_append, List.nil_append] at hk_new
  have hs0 := hk0.2.1
  clear hb hk0 hg3_g1 hg4_g1 hg5_g1 hg6_g1
  try clear hk
  have hk := hk_new
  clear hk_new
  have hk' := hk
  obtain ⟨h1, h2, h3, h4⟩ := hk'
  simp only [cellsAre_cons, cellsAre_nil, and_true] at h4
  have lta_0 : w.heap.size < w1.heap.size := by omega
  have nea_0 : ¬ w.heap.size = w1.heap.size := by omega
  have nfa_0 : ¬ w1.heap.size = w.heap.size := by omega
  have lta_1 : w.heap.size + 1 < w1.heap.size := by omega
  have nea_1 : ¬ w.heap.size + 1 = w1.heap.size := by omega
  have nfa_1 : ¬ w1.heap.size = w.heap.size + 1 := by omega
  have lta_2 : g1 < w1.heap.size := by omega
  have nea_2 : ¬ g1 = w1.heap.size := by omega
  have nfa_2 : ¬ w1.heap.size = g1 := by omega
  have h2a := h2
  go_wp2_with fail
  refine (R.out _).mono ?_
  rintro e w2 ho
  obtain ⟨g2, rfl, hg1_g2, hg2_g2, hg3_g2, hg4_g2, hg5_g2, hg6_g2, hb⟩ := ho
  have hk0 : Keeps (w1.heap.size + 1) [(⟨w1.heap.size, 0, none⟩, .int .i64 1), (⟨w1.heap.size, 1, none⟩, .int .i64 (v + 1)), (⟨w1.heap.size, 2, none⟩, .slice (some ⟨g1, 0, none⟩) 1 1), (⟨g1, 0, none⟩, .int .i64 x3), (⟨g1, 1, none⟩, .int .i64 aa), (⟨w.heap.size, 0, none⟩, .int .i64 t), (⟨w.heap.size, 1, none⟩, .bool c), (⟨w.heap.size, 2, none⟩, .int .i64 s), (⟨w.heap.size, 3, none⟩, .int .i64 v), (⟨w.heap.size + 1, 0, none⟩, .int .i64 x0), (⟨w.heap.size + 1, 1, none⟩, .int .i64 x1), (⟨w.heap.size + 1, 2, none⟩, .int .i64 x2), (⟨w.heap.size + 1, 3, none⟩, .int .i64 x3), (⟨w.heap.size + 1, 4, none⟩, .int .i64 x4)] w w2 := by
    refine Keeps.below ⟨?_, by first | (simp; done) | (simp; omega) | omega, by first | (simp [List.forall_mem_cons]; done) | (simp [List.forall_mem_cons]; omega), by simp [cellsAre_cons, cellsAre_nil, go_sem, World.cell?_alloc_past, *]⟩ hb
    (repeat (first | with_reducible apply Below.drew | with_reducible refine Below.setCell ?_ (by first | exact Nat.le_refl _ | (simp; done) | (simp; omega) | omega) _ | with_reducible refine Below.alloc ?_ (by first | exact Nat.le_refl _ | (simp; done) | (simp; omega) | omega) _ | with_reducible exact Below.refl _ _ | with_reducible assumption))
  simp at hg1_g2
  have hk_new : Keeps (w2.heap.size) ([(⟨g2, 0, none⟩, .int .i64 x3), (⟨g2, 1, none⟩, .int .i64 aa)] ++ [(⟨w1.heap.size, 0, none⟩, .int .i64 1), (⟨w1.heap.size, 1, none⟩, .int .i64 (v + 1)), (⟨w1.heap.size, 2, none⟩, .slice (some ⟨g1, 0, none⟩) 1 1), (⟨g1, 0, none⟩, .int .i64 x3), (⟨g1, 1, none⟩, .int .i64 aa), (⟨w.heap.size, 0, none⟩, .int .i64 t), (⟨w.heap.size, 1, none⟩, .bool c), (⟨w.heap.size, 2, none⟩, .int .i64 s), (⟨w.heap.size, 3, none⟩, .int .i64 v), (⟨w.heap.size + 1, 0, none⟩, .int .i64 x0), (⟨w.heap.size + 1, 1, none⟩, .int .i64 x1), (⟨w.heap.size + 1, 2, none⟩, .int .i64 x2), (⟨w.heap.size + 1, 3, none⟩, .int .i64 x3), (⟨w.heap.size + 1, 4, none⟩, .int .i64 x4)]) w w2 :=
    Keeps.more hk0 hk0.2.1 (Nat.le_refl _) (by simp [hg2_g2]) (by simp [cellsAre_cons, cellsAre_nil, hg3_g2, hg4_g2, hg5_g2, hg6_g2])
  simp only [List.cons_append, List.nil_append] at hk_new
  have hs0 := hk0.2.1
  clear hb hk0 hg3_g2 hg4_g2 hg5_g2 hg6_g2
  try clear hk
  have hk := hk_new
  clear hk_new
  clear h1 h2 h3 h4
  have hk' := hk
  obtain ⟨h1, h2, h3, h4⟩ := hk'
  simp only [cellsAre_cons, cellsAre_nil, and_true] at h4
  clear lta_0 lta_1 lta_2
  generalize w1.heap.size = b1 at *
  have ltb_0 : w.heap.size < w2.heap.size := by omega
  have neb_0 : ¬ w.heap.size = w2.heap.size := by omega
  have nfb_0 : ¬ w2.heap.size = w.heap.size := by omega
  have ltb_1 : w.heap.size + 1 < w2.heap.size := by omega
  have neb_1 : ¬ w.heap.size + 1 = w2.heap.size := by omega
  have nfb_1 : ¬ w2.heap.size = w.heap.size + 1 := by omega
  have ltb_2 : g1 < w2.heap.size := by omega
  have neb_2 : ¬ g1 = w2.heap.size := by omega
  have nfb_2 : ¬ w2.heap.size = g1 := by omega
  have ltb_3 : b1 < w2.heap.size := by omega
  have neb_3 : ¬ b1 = w2.heap.size := by omega
  have nfb_3 : ¬ w2.heap.size = b1 := by omega
  have ltb_4 : g2 < w2.heap.size := by omega
  have neb_4 : ¬ g2 = w2.heap.size := by omega
  have nfb_4 : ¬ w2.heap.size = g2 := by omega
  have neg : ¬ g1 = g2 := by omega
  have neg' : ¬ g2 = g1 := by omega
  have h2b := h2
  go_wp2_with fail
  refine (same_one 1 (v + 1) x3 aa g1 g2 _ ?_ ?_ ?_ ?_ ?_ ?_).mono ?_
  · simp; omega
  · simp; omega
  · simp [go_sem, World.cell?_alloc_past, *]
  · simp [go_sem, World.cell?_alloc_past, *]
  · simp [go_sem, World.cell?_alloc_past, *]
  · simp [go_sem, World.cell?_alloc_past, *]
  rintro e w3 ⟨rfl, hb⟩
  have hk_new : Keeps (w2.heap.size + 1) [(⟨w2.heap.size, 0, none⟩, .int .i64 1), (⟨w2.heap.size, 1, none⟩, .int .i64 (v + 1)), (⟨w2.heap.size, 2, none⟩, .slice (some ⟨g2, 0, none⟩) 1 1), (⟨g2, 0, none⟩, .int .i64 x3), (⟨g2, 1, none⟩, .int .i64 aa), (⟨b1, 0, none⟩, .int .i64 1), (⟨b1, 1, none⟩, .int .i64 (v + 1)), (⟨b1, 2, none⟩, .slice (some ⟨g1, 0, none⟩) 1 1), (⟨g1, 0, none⟩, .int .i64 x3), (⟨g1, 1, none⟩, .int .i64 aa), (⟨w.heap.size, 0, none⟩, .int .i64 t), (⟨w.heap.size, 1, none⟩, .bool c), (⟨w.heap.size, 2, none⟩, .int .i64 s), (⟨w.heap.size, 3, none⟩, .int .i64 v), (⟨w.heap.size + 1, 0, none⟩, .int .i64 x0), (⟨w.heap.size + 1, 1, none⟩, .int .i64 x1), (⟨w.heap.size + 1, 2, none⟩, .int .i64 x2), (⟨w.heap.size + 1, 3, none⟩, .int .i64 x3), (⟨w.heap.size + 1, 4, none⟩, .int .i64 x4)] w w3 := by
    refine Keeps.below ⟨?_, by first | (simp; done) | (simp; omega) | omega, by first | (simp [List.forall_mem_cons]; done) | (simp [List.forall_mem_cons]; omega), by simp [cellsAre_cons, cellsAre_nil, go_sem, World.cell?_alloc_past, *]⟩ hb
    (repeat (first | with_reducible apply Below.drew | with_reducible refine Below.setCell ?_ (by first | exact Nat.le_refl _ | (simp; done) | (simp; omega) | omega) _ | with_reducible refine Below.alloc ?_ (by first | exact Nat.le_refl _ | (simp; done) | (simp; omega) | omega) _ | with_reducible exact Below.refl _ _ | with_reducible assumption))
  clear hb
  try clear hk
  have hk := hk_new
  clear hk_new
  clear h1 h2 h3 h4
  have hk' := hk
  obtain ⟨h1, h2, h3, h4⟩ := hk'
  simp only [cellsAre_cons, cellsAre_nil, and_true] at h4
  clear ltb_0 ltb_1 ltb_2 ltb_3 ltb_4
  generalize w2.heap.size = b2 at *
  go_wp2_with fail
  refine wp_loop_rounds 2 ?_
  rw [rounds_succ]
  have neh : ¬ g1 = w.heap.size := by omega
  have neh1 : ¬ g1 = w.heap.size + 1 := by omega
  have neb1 : ¬ g1 = b1 := by omega
  have neb2 : ¬ g1 = b2 := by omega
  have neh' : ¬ w.heap.size = g1 := by omega
  have neh1' : ¬ w.heap.size + 1 = g1 := by omega
  have neb1' : ¬ b1 = g1 := by omega
  have neb2' : ¬ b2 = g1 := by omega
  go_wp2_with fail
  rw [rounds_succ]
  go_wp2_with fail
  refine abs_code (fun w' => Keeps (b2 + 1) [(⟨b2, 0, none⟩, .int .i64 1), (⟨b2, 1, none⟩, .int .i64 (v + 1)), (⟨b2, 2, none⟩, .slice (some ⟨g2, 0, none⟩) 1 1), (⟨g2, 0, none⟩, .int .i64 x3), (⟨g2, 1, none⟩, .int .i64 aa), (⟨b1, 0, none⟩, .int .i64 1), (⟨b1, 1, none⟩, .int .i64 (v + 1)), (⟨b1, 2, none⟩, .slice (some ⟨g1, 0, none⟩) 1 1), (⟨g1, 0, none⟩, .int .i64 (-9)), (⟨g1, 1, none⟩, .int .i64 0), (⟨w.heap.size, 0, none⟩, .int .i64 t), (⟨w.heap.size, 1, none⟩, .bool c), (⟨w.heap.size, 2, none⟩, .int .i64 s), (⟨w.heap.size, 3, none⟩, .int .i64 v), (⟨w.heap.size + 1, 0, none⟩, .int .i64 x0), (⟨w.heap.size + 1, 1, none⟩, .int .i64 x1), (⟨w.heap.size + 1, 2, none⟩, .int .i64 x2), (⟨w.heap.size + 1, 3, none⟩, .int .i64 x3), (⟨w.heap.size + 1, 4, none⟩, .int .i64 x4)] w w') (by refine ⟨?_, by first | (simp; done) | (simp; omega) | omega, by first | (simp [List.forall_mem_cons]; done) | (simp [List.forall_mem_cons]; omega), by simp [cellsAre_cons, cellsAre_nil, go_sem, World.cell?_alloc_past, *]⟩; (repeat (first | with_reducible apply Below.drew | with_reducible refine Below.setCell ?_ (by first | exact Nat.le_refl _ | (simp; done) | (simp; omega) | omega) _ | with_reducible refine Below.alloc ?_ (by first | exact Nat.le_refl _ | (simp; done) | (simp; omega) | omega) _ | with_reducible exact Below.refl _ _ | with_reducible assumption))) ?_
  intro w4 hk4
  clear hk h1 h2 h3 h4
  obtain ⟨h1, h2, h3, h4⟩ := id hk4
  simp only [cellsAre_cons, cellsAre_nil, and_true] at h4
  have hg2b : g2 < b2 := by omega
  clear h1 h2 h3 h4
  go_region_held3 (fun w' => Keeps (b2 + 1) [(⟨b2, 0, none⟩, .int .i64 1), (⟨b2, 1, none⟩, .int .i64 (v + 1)), (⟨b2, 2, none⟩, .slice (some ⟨g2, 0, none⟩) 1 1), (⟨g2, 0, none⟩, .int .i64 x3), (⟨g2, 1, none⟩, .int .i64 aa), (⟨b1, 0, none⟩, .int .i64 1), (⟨b1, 1, none⟩, .int .i64 (v + 1)), (⟨b1, 2, none⟩, .slice (some ⟨g1, 0, none⟩) 1 1), (⟨g1, 0, none⟩, .int .i64 (-9)), (⟨g1, 1, none⟩, .int .i64 0), (⟨w.heap.size, 0, none⟩, .int .i64 t), (⟨w.heap.size, 1, none⟩, .bool c), (⟨w.heap.size, 2, none⟩, .int .i64 s), (⟨w.heap.size, 3, none⟩, .int .i64 v), (⟨w.heap.size + 1, 0, none⟩, .int .i64 x0), (⟨w.heap.size + 1, 1, none⟩, .int .i64 x1), (⟨w.heap.size + 1, 2, none⟩, .int .i64 x2), (⟨w.heap.size + 1, 3, none⟩, .int .i64 x3), (⟨w.heap.size + 1, 4, none⟩, .int .i64 x4)] w w' ∧ (b2 + 1 ≤ w'.heap.size ∧ w'.cell? ⟨w.heap.size, 0, none⟩ = some (.int .i64 t) ∧ w'.cell? ⟨w.heap.size, 1, none⟩ = some (.bool c) ∧ w'.cell? ⟨w.heap.size, 2, none⟩ = some (.int .i64 s) ∧ w'.cell? ⟨w.heap.size, 3, none⟩ = some (.int .i64 v) ∧ w'.cell? ⟨w.heap.size + 1, 0, none⟩ = some (.int .i64 x0) ∧ w'.cell? ⟨w.heap.size + 1, 1, none⟩ = some (.int .i64 x1) ∧ w'.cell? ⟨w.heap.size + 1, 2, none⟩ = some (.int .i64 x2) ∧ w'.cell? ⟨w.heap.size + 1, 3, none⟩ = some (.int .i64 x3) ∧ w'.cell? ⟨w.heap.size + 1, 4, none⟩ = some (.int .i64 x4) ∧ w'.cell? ⟨b2, 0, none⟩ = some (.int .i64 1) ∧ w'.cell? ⟨b2, 1, none⟩ = some (.int .i64 (v + 1)) ∧ w'.cell? ⟨b2, 2, none⟩ = some (.slice (some ⟨g2, 0, none⟩) 1 1) ∧ w'.cell? ⟨g2, 0, none⟩ = some (.int .i64 x3) ∧ w'.cell? ⟨g2, 1, none⟩ = some (.int .i64 aa))) (refine held_mk (by first | with_reducible assumption | (with_reducible apply Keeps.drew; with_reducible assumption) | exact Keeps.below ((‹Keeps _ _ _ _ ∧ _›).1) (by with_reducible assumption)) (fun hk => by obtain ⟨_, hs, _, h4⟩ := hk; simp only [cellsAre_cons, cellsAre_nil, and_true] at h4; simp only [h4, hs, true_and, and_self]))
    (first
    | (go_at_call 24; refine (D.out _).mono ?_; rintro e w5 ⟨g3, rfl, q1, q2, q3, q4, q5, q6, hb⟩)
    | (go_at_call 26; obtain ⟨_, r0, r⟩ := ‹Keeps _ _ _ _ ∧ _›; refine (same_one 1 (v + 1) x3 aa g3 g2 _ ?_ ?_ ?_ ?_ ?_ ?_).mono ?_; (with_reducible assumption); (omega); (with_reducible assumption); (with_reducible assumption); (simp only [r]); (simp only [r]); rintro e w6 ⟨rfl, hb⟩)
    | (go_at_call 27; refine (works_any _).mono ?_; rintro e w7 ⟨rfl, hb⟩))
  all_goals (obtain ⟨hk, _⟩ := ‹Keeps _ _ _ _ ∧ _›)
  all_goals go_wp2_with fail
  all_goals go_ret
  all_goals exact ⟨by simp, hk.1⟩
end Go.Proofs.Ytigkfekidmjpbaa
