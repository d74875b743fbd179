/-
  The walk over 'works', the examples at the end of the statements of the aggregates.
-/
import Derived.Test.YtigkfekidmjpbaaProg
import Derived.Test.YtigkfekidmjpbaaSeq
import Derived.WalkKit
import Derived.WalkSpells
import Derived.WalkLawsBesides
import Derived.RowKit3
import Derived.Lib.Hide
import Derived.Test.YtigkfekidmjpbaaLaw12
set_option linter.unusedSimpArgs false
set_option linter.unusedVariables false
namespace Go.Proofs.Ytigkfekidmjpbaa
open Go.RowKit Go.Sq Go.Arch

set_option maxHeartbeats 4000000 in
theorem works_any (w : World) : Calls Try.prog 27 #[] w fun e w' => e = .returned (.bool true) ∧ Below w.heap.size w w' := by
  have a1 : codeS ⟨0, false, 0, 0⟩ ⟨1, 0, -1, 1, 2⟩ = 1 := by simp [codeS, mayS, ordOk, comesS, evOf, leastS]
  have a2 : codeS ⟨2, false, 5, 3⟩ ⟨1, 0, 3, 3, 6⟩ = 3 := by simp [codeS, mayS, ordOk, comesS, evOf, leastS]
  have a2' : verS ⟨2, false, 5, 3⟩ ⟨1, 0, 3, 3, 6⟩ = 3 := by simp [verS, a2, mayS, leastS]
  have a3 : codeS ⟨2, false, 5, 3⟩ ⟨1, 0, 2, 3, 5⟩ = 2 := by simp [codeS, mayS, ordOk, comesS, evOf, leastS]
  have a3' : verS ⟨2, false, 5, 3⟩ ⟨1, 0, 2, 3, 5⟩ = 3 := by simp [verS, a3, mayS, leastS]
  have d1 : ∀ w, Calls Try.prog 24 #[.agg #[.int .i64 0, .bool false, .int .i64 0, .int .i64 0], .agg #[.int .i64 1, .int .i64 0, .int .i64 (-1), .int .i64 1, .int .i64 2]] w fun e w' => OutNew w w' 1 1 2 e := fun w => decide_yes 0 0 0 1 0 (-1) 1 2 false w a1
  have d2 := fun w => decide_no 2 5 3 1 0 3 3 6 false w (by rw [a2]; decide)
  have d3 := fun w => decide_no 2 5 3 1 0 2 3 5 false w (by rw [a3]; decide)
  rw [a2, a2'] at d2
  rw [a3, a3'] at d3
  have e4 : applyS ⟨2, false, 5, 3⟩ ⟨3, 5⟩ = ⟨2, false, 0, 4⟩ := by simp [applyS, mayS, comesS, leastS]
  have d4 := fun w => apply_any 2 5 3 3 5 false w
  rw [e4] at d4
  dsimp only at d4
  have D1 := Lib.hid d1
  have D2 := Lib.hid d2
  have D3 := Lib.hid d3
  have D4 := Lib.hid d4
  clear a1 a2 a2' a3 a3' d1 d2 d3 d4 e4
  go_enter Try.func27, Try.ntmps27
  go_wp2_with fail
  refine (D1.out _).mono ?_
  rintro e w1 ho
  obtain ⟨g, rfl, hg1_g, hg2_g, hg3_g, hg4_g, hg5_g, hg6_g, hb⟩ := ho
  have hk0 : Keeps (w.heap.size + 1) [(⟨w.heap.size, 0, none⟩, .int .i64 2), (⟨w.heap.size, 1, none⟩, .bool false), (⟨w.heap.size, 2, none⟩, .int .i64 5), (⟨w.heap.size, 3, none⟩, .int .i64 3)] w w1 := by
    refine Keeps.below ⟨?_, by first | (simp; done) | (simp; omega) | omega, by first | (simp [List.forall_mem_cons]; done) | (simp [List.forall_mem_cons]; omega), by simp [cellsAre_cons, cellsAre_nil, go_sem, World.cell?_alloc_past, *]⟩ hb
    (repeat (first | with_reducible apply Below.drew | with_reducible refine Below.setCell ?_ (by first | exact Nat.le_refl _ | (simp; done) | (simp; omega) | omega) _ | with_reducible refine Below.alloc ?_ (by first | exact Nat.le_refl _ | (simp; done) | (simp; omega) | omega) _ | with_reducible exact Below.refl _ _ | with_reducible assumption))
  simp at hg1_g
  have hk_new : Keeps (w1.heap.size) ([(⟨g, 0, none⟩, .int .i64 1), (⟨g, 1, none⟩, .int .i64 2)] ++ [(⟨w.heap.size, 0, none⟩, .int .i64 2), (⟨w.heap.size, 1, none⟩, .bool false), (⟨w.heap.size, 2, none⟩, .int .i64 5), (⟨w.heap.size, 3, none⟩, .int .i64 3)]) w w1 :=
    Keeps.more hk0 hk0.2.1 (Nat.le_refl _) (by simp [hg2_g]) (by simp [cellsAre_cons, cellsAre_nil, hg3_g, hg4_g, hg5_g, hg6_g])
  simp only [List.cons_append, List.nil_append] at hk_new
  have hs0 := hk0.2.1
  clear hb hk0 hg3_g hg4_g hg5_g hg6_g
  try clear hk
  have hk := hk_new
  clear hk_new
  have hk' := hk
  obtain ⟨h1, h2, h3, h4⟩ := hk'
  simp only [cellsAre_cons, cellsAre_nil, and_true] at h4
  have lta_0 : w.heap.size < w1.heap.size := by omega
  have nea_0 : ¬ w.heap.size = w1.heap.size := by omega
  have nfa_0 : ¬ w1.heap.size = w.heap.size := by omega
  have lta_1 : g < w1.heap.size := by omega
  have nea_1 : ¬ g = w1.heap.size := by omega
  have nfa_1 : ¬ w1.heap.size = g := by omega
  go_wp2_with fail
  refine (D2.out _).mono ?_
  rintro e w2 ⟨rfl, hb⟩
  have h2a := h2
  have hk_new : Keeps (w1.heap.size + 1) [(⟨w1.heap.size, 0, none⟩, .int .i64 1), (⟨w1.heap.size, 1, none⟩, .int .i64 1), (⟨w1.heap.size, 2, none⟩, .slice (some ⟨g, 0, none⟩) 1 1), (⟨g, 0, none⟩, .int .i64 1), (⟨g, 1, none⟩, .int .i64 2), (⟨w.heap.size, 0, none⟩, .int .i64 2), (⟨w.heap.size, 1, none⟩, .bool false), (⟨w.heap.size, 2, none⟩, .int .i64 5), (⟨w.heap.size, 3, none⟩, .int .i64 3)] w w2 := by
    refine Keeps.below ⟨?_, by first | (simp; done) | (simp; omega) | omega, by first | (simp [List.forall_mem_cons]; done) | (simp [List.forall_mem_cons]; omega), by simp [cellsAre_cons, cellsAre_nil, go_sem, World.cell?_alloc_past, *]⟩ hb
    (repeat (first | with_reducible apply Below.drew | with_reducible refine Below.setCell ?_ (by first | exact Nat.le_refl _ | (simp; done) | (simp; omega) | omega) _ | with_reducible refine Below.alloc ?_ (by first | exact Nat.le_refl _ | (simp; done) | (simp; omega) | omega) _ | with_reducible exact Below.refl _ _ | with_reducible assumption))
  clear hb
  try clear hk
  have hk := hk_new
  clear hk_new
  clear h1 h2 h3 h4
  have hk' := hk
  obtain ⟨h1, h2, h3, h4⟩ := hk'
  simp only [cellsAre_cons, cellsAre_nil, and_true] at h4
  clear lta_0 lta_1
  generalize w1.heap.size = b1 at *
  have ltb_0 : w.heap.size < w2.heap.size := by omega
  have neb_0 : ¬ w.heap.size = w2.heap.size := by omega
  have nfb_0 : ¬ w2.heap.size = w.heap.size := by omega
  have ltb_1 : g < w2.heap.size := by omega
  have neb_1 : ¬ g = w2.heap.size := by omega
  have nfb_1 : ¬ w2.heap.size = g := by omega
  have ltb_2 : b1 < w2.heap.size := by omega
  have neb_2 : ¬ b1 = w2.heap.size := by omega
  have nfb_2 : ¬ w2.heap.size = b1 := by omega
  go_wp2_with fail
  refine (D3.out _).mono ?_
  rintro e w3 ⟨rfl, hb⟩
  have h2b := h2
  have hk_new : Keeps (w2.heap.size + 1) [(⟨w2.heap.size, 0, none⟩, .int .i64 3), (⟨w2.heap.size, 1, none⟩, .int .i64 3), (⟨w2.heap.size, 2, none⟩, .slice none 0 0), (⟨b1, 0, none⟩, .int .i64 1), (⟨b1, 1, none⟩, .int .i64 1), (⟨b1, 2, none⟩, .slice (some ⟨g, 0, none⟩) 1 1), (⟨g, 0, none⟩, .int .i64 1), (⟨g, 1, none⟩, .int .i64 2), (⟨w.heap.size, 0, none⟩, .int .i64 2), (⟨w.heap.size, 1, none⟩, .bool false), (⟨w.heap.size, 2, none⟩, .int .i64 5), (⟨w.heap.size, 3, none⟩, .int .i64 3)] w w3 := by
    refine Keeps.below ⟨?_, by first | (simp; done) | (simp; omega) | omega, by first | (simp [List.forall_mem_cons]; done) | (simp [List.forall_mem_cons]; omega), by simp [cellsAre_cons, cellsAre_nil, go_sem, World.cell?_alloc_past, *]⟩ hb
    (repeat (first | with_reducible apply Below.drew | with_reducible refine Below.setCell ?_ (by first | exact Nat.le_refl _ | (simp; done) | (simp; omega) | omega) _ | with_reducible refine Below.alloc ?_ (by first | exact Nat.le_refl _ | (simp; done) | (simp; omega) | omega) _ | with_reducible exact Below.refl _ _ | with_reducible assumption))
  clear hb
  try clear hk
  have hk := hk_new
  clear hk_new
  clear h1 h2 h3 h4
  have hk' := hk
  obtain ⟨h1, h2, h3, h4⟩ := hk'
  simp only [cellsAre_cons, cellsAre_nil, and_true] at h4
  clear ltb_0 ltb_1 ltb_2
  generalize w2.heap.size = b2 at *
  have ltc_0 : w.heap.size < w3.heap.size := by omega
  have nec_0 : ¬ w.heap.size = w3.heap.size := by omega
  have nfc_0 : ¬ w3.heap.size = w.heap.size := by omega
  have ltc_1 : g < w3.heap.size := by omega
  have nec_1 : ¬ g = w3.heap.size := by omega
  have nfc_1 : ¬ w3.heap.size = g := by omega
  have ltc_2 : b1 < w3.heap.size := by omega
  have nec_2 : ¬ b1 = w3.heap.size := by omega
  have nfc_2 : ¬ w3.heap.size = b1 := by omega
  have ltc_3 : b2 < w3.heap.size := by omega
  have nec_3 : ¬ b2 = w3.heap.size := by omega
  have nfc_3 : ¬ w3.heap.size = b2 := by omega
  go_wp2_with fail
  refine (same_one 1 1 1 2 g (w3.heap.size + 1) _ ?_ ?_ ?_ ?_ ?_ ?_).mono ?_
  · simp; omega
  · simp
  · simp [go_sem, World.cell?_alloc_past, *]
  · simp [go_sem, World.cell?_alloc_past, *]
  · simp [go_sem]
  · simp [go_sem]
  rintro e w4 ⟨rfl, hb⟩
  have h2c := h2
  have hk_new : Keeps (w3.heap.size + 2) [(⟨w3.heap.size, 0, none⟩, .int .i64 2), (⟨w3.heap.size, 1, none⟩, .int .i64 3), (⟨w3.heap.size, 2, none⟩, .slice none 0 0), (⟨b2, 0, none⟩, .int .i64 3), (⟨b2, 1, none⟩, .int .i64 3), (⟨b2, 2, none⟩, .slice none 0 0), (⟨b1, 0, none⟩, .int .i64 1), (⟨b1, 1, none⟩, .int .i64 1), (⟨b1, 2, none⟩, .slice (some ⟨g, 0, none⟩) 1 1), (⟨g, 0, none⟩, .int .i64 1), (⟨g, 1, none⟩, .int .i64 2), (⟨w.heap.size, 0, none⟩, .int .i64 2), (⟨w.heap.size, 1, none⟩, .bool false), (⟨w.heap.size, 2, none⟩, .int .i64 5), (⟨w.heap.size, 3, none⟩, .int .i64 3)] w w4 := by
    refine Keeps.below ⟨?_, by first | (simp; done) | (simp; omega) | omega, by first | (simp [List.forall_mem_cons]; done) | (simp [List.forall_mem_cons]; omega), by simp [cellsAre_cons, cellsAre_nil, go_sem, World.cell?_alloc_past, *]⟩ hb
    (repeat (first | with_reducible apply Below.drew | with_reducible refine Below.setCell ?_ (by first | exact Nat.le_refl _ | (simp; done) | (simp; omega) | omega) _ | with_reducible refine Below.alloc ?_ (by first | exact Nat.le_refl _ | (simp; done) | (simp; omega) | omega) _ | with_reducible exact Below.refl _ _ | with_reducible assumption))
  clear hb
  try clear hk
  have hk := hk_new
  clear hk_new
  clear h1 h2 h3 h4
  have hk' := hk
  obtain ⟨h1, h2, h3, h4⟩ := hk'
  simp only [cellsAre_cons, cellsAre_nil, and_true] at h4
  clear ltc_0 ltc_1 ltc_2 ltc_3
  generalize w3.heap.size = b3 at *
  go_wp2_with fail
  refine (same_nil _ _ _).mono ?_
  rintro e w5 ⟨rfl, hb⟩
  have hk_new : Keeps (b3 + 2) [(⟨b3, 0, none⟩, .int .i64 2), (⟨b3, 1, none⟩, .int .i64 3), (⟨b3, 2, none⟩, .slice none 0 0), (⟨b2, 0, none⟩, .int .i64 3), (⟨b2, 1, none⟩, .int .i64 3), (⟨b2, 2, none⟩, .slice none 0 0), (⟨b1, 0, none⟩, .int .i64 1), (⟨b1, 1, none⟩, .int .i64 1), (⟨b1, 2, none⟩, .slice (some ⟨g, 0, none⟩) 1 1), (⟨g, 0, none⟩, .int .i64 1), (⟨g, 1, none⟩, .int .i64 2), (⟨w.heap.size, 0, none⟩, .int .i64 2), (⟨w.heap.size, 1, none⟩, .bool false), (⟨w.heap.size, 2, none⟩, .int .i64 5), (⟨w.heap.size, 3, none⟩, .int .i64 3)] w w5 := by
    refine Keeps.below ⟨?_, by first | (simp; done) | (simp; omega) | omega, by first | (simp [List.forall_mem_cons]; done) | (simp [List.forall_mem_cons]; omega), by simp [cellsAre_cons, cellsAre_nil, go_sem, World.cell?_alloc_past, *]⟩ hb
    (repeat (first | with_reducible apply Below.drew | with_reducible refine Below.setCell ?_ (by first | exact Nat.le_refl _ | (simp; done) | (simp; omega) | omega) _ | with_reducible refine Below.alloc ?_ (by first | exact Nat.le_refl _ | (simp; done) | (simp; omega) | omega) _ | with_reducible exact Below.refl _ _ | with_reducible assumption))
  clear hb
  try clear hk
  have hk := hk_new
  clear hk_new
  clear h1 h2 h3 h4
  have hk' := hk
  obtain ⟨h1, h2, h3, h4⟩ := hk'
  simp only [cellsAre_cons, cellsAre_nil, and_true] at h4
  go_wp2_with fail
  refine (same_nil _ _ _).mono ?_
  rintro e w6 ⟨rfl, hb⟩
  have hk_new : Keeps (b3 + 2) [(⟨b3, 0, none⟩, .int .i64 2), (⟨b3, 1, none⟩, .int .i64 3), (⟨b3, 2, none⟩, .slice none 0 0), (⟨b2, 0, none⟩, .int .i64 3), (⟨b2, 1, none⟩, .int .i64 3), (⟨b2, 2, none⟩, .slice none 0 0), (⟨b1, 0, none⟩, .int .i64 1), (⟨b1, 1, none⟩, .int .i64 1), (⟨b1, 2, none⟩, .slice (some ⟨g, 0, none⟩) 1 1), (⟨g, 0, none⟩, .int .i64 1), (⟨g, 1, none⟩, .int .i64 2), (⟨w.heap.size, 0, none⟩, .int .i64 2), (⟨w.heap.size, 1, none⟩, .bool false), (⟨w.heap.size, 2, none⟩, .int .i64 5), (⟨w.heap.size, 3, none⟩, .int .i64 3)] w w6 := by
    refine Keeps.below ⟨?_, by first | (simp; done) | (simp; omega) | omega, by first | (simp [List.forall_mem_cons]; done) | (simp [List.forall_mem_cons]; omega), by simp [cellsAre_cons, cellsAre_nil, go_sem, World.cell?_alloc_past, *]⟩ hb
    (repeat (first | with_reducible apply Below.drew | with_reducible refine Below.setCell ?_ (by first | exact Nat.le_refl _ | (simp; done) | (simp; omega) | omega) _ | with_reducible refine Below.alloc ?_ (by first | exact Nat.le_refl _ | (simp; done) | (simp; omega) | omega) _ | with_reducible exact Below.refl _ _ | with_reducible assumption))
  clear hb
  try clear hk
  have hk := hk_new
  clear hk_new
  clear h1 h2 h3 h4
  have hk' := hk
  obtain ⟨h1, h2, h3, h4⟩ := hk'
  simp only [cellsAre_cons, cellsAre_nil, and_true] at h4
  go_wp2_with fail
  refine (D4.out _).mono ?_
  rintro e w7 ⟨rfl, hb⟩
  have hk_new : Keeps (b3 + 2) [(⟨b3, 0, none⟩, .int .i64 2), (⟨b3, 1, none⟩, .int .i64 3), (⟨b3, 2, none⟩, .slice none 0 0), (⟨b2, 0, none⟩, .int .i64 3), (⟨b2, 1, none⟩, .int .i64 3), (⟨b2, 2, none⟩, .slice none 0 0), (⟨b1, 0, none⟩, .int .i64 1), (⟨b1, 1, none⟩, .int .i64 1), (⟨b1, 2, none⟩, .slice (some ⟨g, 0, none⟩) 1 1), (⟨g, 0, none⟩, .int .i64 1), (⟨g, 1, none⟩, .int .i64 2), (⟨w.heap.size, 0, none⟩, .int .i64 2), (⟨w.heap.size, 1, none⟩, .bool false), (⟨w.heap.size, 2, none⟩, .int .i64 5), (⟨w.heap.size, 3, none⟩, .int .i64 3)] w w7 := by
    refine Keeps.below ⟨?_, by first | (simp; done) | (simp; omega) | omega, by first | (simp [List.forall_mem_cons]; done) | (simp [List.forall_mem_cons]; omega), by simp [cellsAre_cons, cellsAre_nil, go_sem, World.cell?_alloc_past, *]⟩ hb
    (repeat (first | with_reducible apply Below.drew | with_reducible refine Below.setCell ?_ (by first | exact Nat.le_refl _ | (simp; done) | (simp; omega) | omega) _ | with_reducible refine Below.alloc ?_ (by first | exact Nat.le_refl _ | (simp; done) | (simp; omega) | omega) _ | with_reducible exact Below.refl _ _ | with_reducible assumption))
  clear hb
  try clear hk
  have hk := hk_new
  clear hk_new
  clear h1 h2 h3 h4
  have hk' := hk
  obtain ⟨h1, h2, h3, h4⟩ := hk'
  simp only [cellsAre_cons, cellsAre_nil, and_true] at h4
  go_wp2_with fail
  go_ret
  exact ⟨rfl, h1⟩
end Go.Proofs.Ytigkfekidmjpbaa
