/-
  The walk over the statement 'DeedsLead'.
-/
import Derived.Test.YtigkfekidmjpbaaProg
import Derived.Test.YtigkfekidmjpbaaSeq
import Derived.WalkKit
import Derived.WalkSpells
import Derived.WalkLawsBesides
import Derived.RowKit3
import Derived.Lib.Hide
import Derived.Test.YtigkfekidmjpbaaBehind12
set_option linter.unusedSimpArgs false
set_option linter.unusedVariables false
namespace Go.Proofs.Ytigkfekidmjpbaa
open Go.RowKit Go.Sq Go.Arch

theorem mayS_apply {s : St} {e : Ev} (h : mayS s = true) : mayS (applyS s e) = true := by
  unfold applyS
  split
  · rename_i hc
    obtain ⟨_, hc⟩ := hc
    obtain ⟨t, c, s, v⟩ := s
    obtain ⟨k, a⟩ := e
    unfold comesS at hc
    rw [decide_eq_true_eq] at hc
    dsimp only at hc ⊢
    obtain ⟨hv, rfl, hc⟩ := hc
    obtain ⟨q1, q2, q3, q4⟩ := mayS_bounds h
    unfold mayS at h ⊢
    rw [decide_eq_true_eq] at h ⊢
    unfold leastS at *
    dsimp only at h ⊢
    rcases hc with ⟨rfl, rfl, h1, h2⟩ | ⟨rfl, h0, h1, h2⟩ | ⟨rfl, h0, h1, h2⟩ | ⟨rfl, h0, rfl, h2⟩
    · refine .inr ⟨by simp; omega, by simp; omega, ?_, by simp; omega, by omega, by omega, by simp⟩
      simp; split <;> omega
    · refine .inr ⟨by simp; omega, by simp; omega, ?_, by simp; omega, by omega, by omega, by simp⟩
      simp; split <;> (split at h <;> omega)
    · refine .inr ⟨by simp; omega, by simp; omega, ?_, by simp; omega, by omega, by omega, by simp⟩
      simp; split at h2 <;> simp_all <;> omega
    · refine .inr ⟨by simp; omega, by simp; omega, ?_, by simp, by omega, by omega, by simp⟩
      simp; split <;> omega
  · exact h
theorem codeS_in {s : St} {o : Ord} (hm : mayS s = true) (h : codeS s o ≠ 1) : (codeS s o = 2 ∨ codeS s o = 3 ∨ codeS s o = 7) ∧ verS s o = s.ver := by
  constructor
  · unfold codeS at *
    split
    · split
      · simp
      · split
        · rename_i h1 h2 h3; simp [h1, h2, h3] at h
        · simp
    · simp
  · simp [verS, hm, h]

set_option maxHeartbeats 4000000 in
theorem lead_bad (t s v x0 x1 x2 x3 x4 : Int) (c : Bool) (w : World) (hm : mayS ⟨t, c, s, v⟩ = false) :
    Calls Try.prog 9 #[.agg #[.int .i64 t, .bool c, .int .i64 s, .int .i64 v], .agg #[.int .i64 x0, .int .i64 x1, .int .i64 x2, .int .i64 x3, .int .i64 x4]] w fun e w' => e = .returned (.bool true) ∧ Below w.heap.size w w' := by
  have D := Lib.hid (fun w => decide_bad t s v x0 x1 x2 x3 x4 c w hm)
  go_enter Try.func9, Try.ntmps9
  go_wp2_with fail
  refine (D.out _).mono ?_
  rintro e w1 ⟨rfl, hb⟩
  have hk_new : Keeps (w.heap.size + 2) [(⟨w.heap.size, 0, none⟩, .int .i64 t), (⟨w.heap.size, 1, none⟩, .bool c), (⟨w.heap.size, 2, none⟩, .int .i64 s), (⟨w.heap.size, 3, none⟩, .int .i64 v), (⟨w.heap.size + 1, 0, none⟩, .int .i64 x0), (⟨w.heap.size + 1, 1, none⟩, .int .i64 x1), (⟨w.heap.size + 1, 2, none⟩, .int .i64 x2), (⟨w.heap.size + 1, 3, none⟩, .int .i64 x3), (⟨w.heap.size + 1, 4, none⟩, .int .i64 x4)] w w1 := by
    refine Keeps.below ⟨?_, by first | (simp; done) | (simp; omega) | omega, by first | (simp [List.forall_mem_cons]; done) | (simp [List.forall_mem_cons]; omega), by simp [cellsAre_cons, cellsAre_nil, go_sem, World.cell?_alloc_past, *]⟩ hb
    (repeat (first | with_reducible apply Below.drew | with_reducible refine Below.setCell ?_ (by first | exact Nat.le_refl _ | (simp; done) | (simp; omega) | omega) _ | with_reducible refine Below.alloc ?_ (by first | exact Nat.le_refl _ | (simp; done) | (simp; omega) | omega) _ | with_reducible exact Below.refl _ _ | with_reducible assumption))
  clear hb
  try clear hk
  have hk := hk_new
  clear hk_new
  have hk' := hk
  obtain ⟨h1, h2, h3, h4⟩ := hk'
  simp only [cellsAre_cons, cellsAre_nil, and_true] at h4
  have lta_0 : w.heap.size < w1.heap.size := by omega
  have nea_0 : ¬ w.heap.size = w1.heap.size := by omega
  have nfa_0 : ¬ w1.heap.size = w.heap.size := by omega
  have lta_1 : w.heap.size + 1 < w1.heap.size := by omega
  have nea_1 : ¬ w.heap.size + 1 = w1.heap.size := by omega
  have nfa_1 : ¬ w1.heap.size = w.heap.size + 1 := by omega
  have h2a := h2
  go_wp2_with fail
  refine (law_may _ _ _ _ _).mono ?_
  rintro e w2 ⟨rfl, hb⟩
  have hk_new : Keeps (w1.heap.size + 1) [(⟨w1.heap.size, 0, none⟩, .int .i64 7), (⟨w1.heap.size, 1, none⟩, .int .i64 0), (⟨w1.heap.size, 2, none⟩, .slice none 0 0), (⟨w.heap.size, 0, none⟩, .int .i64 t), (⟨w.heap.size, 1, none⟩, .bool c), (⟨w.heap.size, 2, none⟩, .int .i64 s), (⟨w.heap.size, 3, none⟩, .int .i64 v), (⟨w.heap.size + 1, 0, none⟩, .int .i64 x0), (⟨w.heap.size + 1, 1, none⟩, .int .i64 x1), (⟨w.heap.size + 1, 2, none⟩, .int .i64 x2), (⟨w.heap.size + 1, 3, none⟩, .int .i64 x3), (⟨w.heap.size + 1, 4, none⟩, .int .i64 x4)] w w2 := by
    refine Keeps.below ⟨?_, by first | (simp; done) | (simp; omega) | omega, by first | (simp [List.forall_mem_cons]; done) | (simp [List.forall_mem_cons]; omega), by simp [cellsAre_cons, cellsAre_nil, go_sem, World.cell?_alloc_past, *]⟩ hb
    (repeat (first | with_reducible apply Below.drew | with_reducible refine Below.setCell ?_ (by first | exact Nat.le_refl _ | (simp; done) | (simp; omega) | omega) _ | with_reducible refine Below.alloc ?_ (by first | exact Nat.le_refl _ | (simp; done) | (simp; omega) | omega) _ | with_reducible exact Below.refl _ _ | with_reducible assumption))
  clear hb
  try clear hk
  have hk := hk_new
  clear hk_new
  clear h1 h2 h3 h4
  have hk' := hk
  obtain ⟨h1, h2, h3, h4⟩ := hk'
  simp only [cellsAre_cons, cellsAre_nil, and_true] at h4
  clear lta_0 lta_1
  generalize w1.heap.size = b1 at *
  go_wp2_with fail
  refine (same_nil _ _ _).mono ?_
  rintro e w3 ⟨rfl, hb⟩
  have hk_new : Keeps (b1 + 1) [(⟨b1, 0, none⟩, .int .i64 7), (⟨b1, 1, none⟩, .int .i64 0), (⟨b1, 2, none⟩, .slice none 0 0), (⟨w.heap.size, 0, none⟩, .int .i64 t), (⟨w.heap.size, 1, none⟩, .bool c), (⟨w.heap.size, 2, none⟩, .int .i64 s), (⟨w.heap.size, 3, none⟩, .int .i64 v), (⟨w.heap.size + 1, 0, none⟩, .int .i64 x0), (⟨w.heap.size + 1, 1, none⟩, .int .i64 x1), (⟨w.heap.size + 1, 2, none⟩, .int .i64 x2), (⟨w.heap.size + 1, 3, none⟩, .int .i64 x3), (⟨w.heap.size + 1, 4, none⟩, .int .i64 x4)] w w3 := by
    refine Keeps.below ⟨?_, by first | (simp; done) | (simp; omega) | omega, by first | (simp [List.forall_mem_cons]; done) | (simp [List.forall_mem_cons]; omega), by simp [cellsAre_cons, cellsAre_nil, go_sem, World.cell?_alloc_past, *]⟩ hb
    (repeat (first | with_reducible apply Below.drew | with_reducible refine Below.setCell ?_ (by first | exact Nat.le_refl _ | (simp; done) | (simp; omega) | omega) _ | with_reducible refine Below.alloc ?_ (by first | exact Nat.le_refl _ | (simp; done) | (simp; omega) | omega) _ | with_reducible exact Below.refl _ _ | with_reducible assumption))
  clear hb
  try clear hk
  have hk := hk_new
  clear hk_new
  clear h1 h2 h3 h4
  have hk' := hk
  obtain ⟨h1, h2, h3, h4⟩ := hk'
  simp only [cellsAre_cons, cellsAre_nil, and_true] at h4
  go_wp2_with fail
  refine (works_any _).mono ?_
  rintro e w4 ⟨rfl, hb⟩
  have hk_new : Keeps (b1 + 1) [(⟨b1, 0, none⟩, .int .i64 7), (⟨b1, 1, none⟩, .int .i64 0), (⟨b1, 2, none⟩, .slice none 0 0), (⟨w.heap.size, 0, none⟩, .int .i64 t), (⟨w.heap.size, 1, none⟩, .bool c), (⟨w.heap.size, 2, none⟩, .int .i64 s), (⟨w.heap.size, 3, none⟩, .int .i64 v), (⟨w.heap.size + 1, 0, none⟩, .int .i64 x0), (⟨w.heap.size + 1, 1, none⟩, .int .i64 x1), (⟨w.heap.size + 1, 2, none⟩, .int .i64 x2), (⟨w.heap.size + 1, 3, none⟩, .int .i64 x3), (⟨w.heap.size + 1, 4, none⟩, .int .i64 x4)] w w4 := by
    refine Keeps.below ⟨?_, by first | (simp; done) | (simp; omega) | omega, by first | (simp [List.forall_mem_cons]; done) | (simp [List.forall_mem_cons]; omega), by simp [cellsAre_cons, cellsAre_nil, go_sem, World.cell?_alloc_past, *]⟩ hb
    (repeat (first | with_reducible apply Below.drew | with_reducible refine Below.setCell ?_ (by first | exact Nat.le_refl _ | (simp; done) | (simp; omega) | omega) _ | with_reducible refine Below.alloc ?_ (by first | exact Nat.le_refl _ | (simp; done) | (simp; omega) | omega) _ | with_reducible exact Below.refl _ _ | with_reducible assumption))
  clear hb
  try clear hk
  have hk := hk_new
  clear hk_new
  clear h1 h2 h3 h4
  have hk' := hk
  obtain ⟨h1, h2, h3, h4⟩ := hk'
  simp only [cellsAre_cons, cellsAre_nil, and_true] at h4
  go_wp2_with fail
  go_ret
  exact ⟨rfl, h1⟩

set_option maxHeartbeats 8000000 in
theorem lead_no (t s v x0 x1 x2 x3 x4 : Int) (c : Bool) (w : World) (hm : mayS ⟨t, c, s, v⟩ = true) (cd : Int) (hcd : cd = 2 ∨ cd = 3 ∨ cd = 7)
    (hd : ∀ w, Calls Try.prog 24 #[.agg #[.int .i64 t, .bool c, .int .i64 s, .int .i64 v], .agg #[.int .i64 x0, .int .i64 x1, .int .i64 x2, .int .i64 x3, .int .i64 x4]] w fun e w' => e = .returned (.agg #[.int .i64 cd, .int .i64 v, .slice none 0 0]) ∧ Below w.heap.size w w') :
    Calls Try.prog 9 #[.agg #[.int .i64 t, .bool c, .int .i64 s, .int .i64 v], .agg #[.int .i64 x0, .int .i64 x1, .int .i64 x2, .int .i64 x3, .int .i64 x4]] w fun e w' => e = .returned (.bool true) ∧ Below w.heap.size w w' := by
  have D := Lib.hid hd
  clear hd
  rcases hcd with rfl | rfl | rfl
  · go_enter Try.func9, Try.ntmps9
    go_wp2_with fail
    refine (D.out _).mono ?_
    rintro e w1 ⟨rfl, hb⟩
    have hk_new : Keeps (w.heap.size + 2) [(⟨w.heap.size, 0, none⟩, .int .i64 t), (⟨w.heap.size, 1, none⟩, .bool c), (⟨w.heap.size, 2, none⟩, .int .i64 s), (⟨w.heap.size, 3, none⟩, .int .i64 v), (⟨w.heap.size + 1, 0, none⟩, .int .i64 x0), (⟨w.heap.size + 1, 1, none⟩, .int .i64 x1), (⟨w.heap.size + 1, 2, none⟩, .int .i64 x2), (⟨w.heap.size + 1, 3, none⟩, .int .i64 x3), (⟨w.heap.size + 1, 4, none⟩, .int .i64 x4)] w w1 := by
      refine Keeps.below ⟨?_, by first | (simp; done) | (simp; omega) | omega, by first | (simp [List.forall_mem_cons]; done) | (simp [List.forall_mem_cons]; omega), by simp [cellsAre_cons, cellsAre_nil, go_sem, World.cell?_alloc_past, *]⟩ hb
      (repeat (first | with_reducible apply Below.drew | with_reducible refine Below.setCell ?_ (by first | exact Nat.le_refl _ | (simp; done) | (simp; omega) | omega) _ | with_reducible refine Below.alloc ?_ (by first | exact Nat.le_refl _ | (simp; done) | (simp; omega) | omega) _ | with_reducible exact Below.refl _ _ | with_reducible assumption))
    clear hb
    try clear hk
    have hk := hk_new
    clear hk_new
    have hk' := hk
    obtain ⟨h1, h2, h3, h4⟩ := hk'
    simp only [cellsAre_cons, cellsAre_nil, and_true] at h4
    have lta_0 : w.heap.size < w1.heap.size := by omega
    have nea_0 : ¬ w.heap.size = w1.heap.size := by omega
    have nfa_0 : ¬ w1.heap.size = w.heap.size := by omega
    have lta_1 : w.heap.size + 1 < w1.heap.size := by omega
    have nea_1 : ¬ w.heap.size + 1 = w1.heap.size := by omega
    have nfa_1 : ¬ w1.heap.size = w.heap.size + 1 := by omega
    have h2a := h2
    go_wp2_with fail
    refine (law_may _ _ _ _ _).mono ?_
    rintro e w2 ⟨rfl, hb⟩
    have hk_new : Keeps (w1.heap.size + 1) [(⟨w1.heap.size, 0, none⟩, .int .i64 2), (⟨w1.heap.size, 1, none⟩, .int .i64 v), (⟨w1.heap.size, 2, none⟩, .slice none 0 0), (⟨w.heap.size, 0, none⟩, .int .i64 t), (⟨w.heap.size, 1, none⟩, .bool c), (⟨w.heap.size, 2, none⟩, .int .i64 s), (⟨w.heap.size, 3, none⟩, .int .i64 v), (⟨w.heap.size + 1, 0, none⟩, .int .i64 x0), (⟨w.heap.size + 1, 1, none⟩, .int .i64 x1), (⟨w.heap.size + 1, 2, none⟩, .int .i64 x2), (⟨w.heap.size + 1, 3, none⟩, .int .i64 x3), (⟨w.heap.size + 1, 4, none⟩, .int .i64 x4)] w w2 := by
      refine Keeps.below ⟨?_, by first | (simp; done) | (simp; omega) | omega, by first | (simp [List.forall_mem_cons]; done) | (simp [List.forall_mem_cons]; omega), by simp [cellsAre_cons, cellsAre_nil, go_sem, World.cell?_alloc_past, *]⟩ hb
      (repeat (first | with_reducible apply Below.drew | with_reducible refine Below.setCell ?_ (by first | exact Nat.le_refl _ | (simp; done) | (simp; omega) | omega) _ | with_reducible refine Below.alloc ?_ (by first | exact Nat.le_refl _ | (simp; done) | (simp; omega) | omega) _ | with_reducible exact Below.refl _ _ | with_reducible assumption))
    clear hb
    try clear hk
    have hk := hk_new
    clear hk_new
    clear h1 h2 h3 h4
    have hk' := hk
    obtain ⟨h1, h2, h3, h4⟩ := hk'
    simp only [cellsAre_cons, cellsAre_nil, and_true] at h4
    clear lta_0 lta_1
    generalize w1.heap.size = b1 at *
    go_wp2_with fail
    refine (works_any _).mono ?_
    rintro e w4 ⟨rfl, hb⟩
    have hk_new : Keeps (b1 + 1) [(⟨b1, 0, none⟩, .int .i64 2), (⟨b1, 1, none⟩, .int .i64 v), (⟨b1, 2, none⟩, .slice none 0 0), (⟨w.heap.size, 0, none⟩, .int .i64 t), (⟨w.heap.size, 1, none⟩, .bool c), (⟨w.heap.size, 2, none⟩, .int .i64 s), (⟨w.heap.size, 3, none⟩, .int .i64 v), (⟨w.heap.size + 1, 0, none⟩, .int .i64 x0), (⟨w.heap.size + 1, 1, none⟩, .int .i64 x1), (⟨w.heap.size + 1, 2, none⟩, .int .i64 x2), (⟨w.heap.size + 1, 3, none⟩, .int .i64 x3), (⟨w.heap.size + 1, 4, none⟩, .int .i64 x4)] w w4 := by
      refine Keeps.below ⟨?_, by first | (simp; done) | (simp; omega) | omega, by first | (simp [List.forall_mem_cons]; done) | (simp [List.forall_mem_cons]; omega), by simp [cellsAre_cons, cellsAre_nil, go_sem, World.cell?_alloc_past, *]⟩ hb
      (repeat (first | with_reducible apply Below.drew | with_reducible refine Below.setCell ?_ (by first | exact Nat.le_refl _ | (simp; done) | (simp; omega) | omega) _ | with_reducible refine Below.alloc ?_ (by first | exact Nat.le_refl _ | (simp; done) | (simp; omega) | omega) _ | with_reducible exact Below.refl _ _ | with_reducible assumption))
    clear hb
    try clear hk
    have hk := hk_new
    clear hk_new
    clear h1 h2 h3 h4
    have hk' := hk
    obtain ⟨h1, h2, h3, h4⟩ := hk'
    simp only [cellsAre_cons, cellsAre_nil, and_true] at h4
    go_wp2_with fail
    go_ret
    exact ⟨rfl, h1⟩
  · go_enter Try.func9, Try.ntmps9
    go_wp2_with fail
    refine (D.out _).mono ?_
    rintro e w1 ⟨rfl, hb⟩
    have hk_new : Keeps (w.heap.size + 2) [(⟨w.heap.size, 0, none⟩, .int .i64 t), (⟨w.heap.size, 1, none⟩, .bool c), (⟨w.heap.size, 2, none⟩, .int .i64 s), (⟨w.heap.size, 3, none⟩, .int .i64 v), (⟨w.heap.size + 1, 0, none⟩, .int .i64 x0), (⟨w.heap.size + 1, 1, none⟩, .int .i64 x1), (⟨w.heap.size + 1, 2, none⟩, .int .i64 x2), (⟨w.heap.size + 1, 3, none⟩, .int .i64 x3), (⟨w.heap.size + 1, 4, none⟩, .int .i64 x4)] w w1 := by
      refine Keeps.below ⟨?_, by first | (simp; done) | (simp; omega) | omega, by first | (simp [List.forall_mem_cons]; done) | (simp [List.forall_mem_cons]; omega), by simp [cellsAre_cons, cellsAre_nil, go_sem, World.cell?_alloc_past, *]⟩ hb
      (repeat (first | with_reducible apply Below.drew | with_reducible refine Below.setCell ?_ (by first | exact Nat.le_refl _ | (simp; done) | (simp; omega) | omega) _ | with_reducible refine Below.alloc ?_ (by first | exact Nat.le_refl _ | (simp; done) | (simp; omega) | omega) _ | with_reducible exact Below.refl _ _ | with_reducible assumption))
    clear hb
    try clear hk
    have hk := hk_new
    clear hk_new
    have hk' := hk
    obtain ⟨h1, h2, h3, h4⟩ := hk'
    simp only [cellsAre_cons, cellsAre_nil, and_true] at h4
    have lta_0 : w.heap.size < w1.heap.size := by omega
    have nea_0 : ¬ w.heap.size = w1.heap.size := by omega
    have nfa_0 : ¬ w1.heap.size = w.heap.size := by omega
    have lta_1 : w.heap.size + 1 < w1.heap.size := by omega
    have nea_1 : ¬ w.heap.size + 1 = w1.heap.size := by omega
    have nfa_1 : ¬ w1.heap.size = w.heap.size + 1 := by omega
    have h2a := h2
    go_wp2_with fail
    refine (law_may _ _ _ _ _).mono ?_
    rintro e w2 ⟨rfl, hb⟩
    have hk_new : Keeps (w1.heap.size + 1) [(⟨w1.heap.size, 0, none⟩, .int .i64 3), (⟨w1.heap.size, 1, none⟩, .int .i64 v), (⟨w1.heap.size, 2, none⟩, .slice none 0 0), (⟨w.heap.size, 0, none⟩, .int .i64 t), (⟨w.heap.size, 1, none⟩, .bool c), (⟨w.heap.size, 2, none⟩, .int .i64 s), (⟨w.heap.size, 3, none⟩, .int .i64 v), (⟨w.heap.size + 1, 0, none⟩, .int .i64 x0), (⟨w.heap.size + 1, 1, none⟩, .int .i64 x1), (⟨w.heap.size + 1, 2, none⟩, .int .i64 x2), (⟨w.heap.size + 1, 3, none⟩, .int .i64 x3), (⟨w.heap.size + 1, 4, none⟩, .int .i64 x4)] w w2 := by
      refine Keeps.below ⟨?_, by first | (simp; done) | (simp; omega) | omega, by first | (simp [List.forall_mem_cons]; done) | (simp [List.forall_mem_cons]; omega), by simp [cellsAre_cons, cellsAre_nil, go_sem, World.cell?_alloc_past, *]⟩ hb
      (repeat (first | with_reducible apply Below.drew | with_reducible refine Below.setCell ?_ (by first | exact Nat.le_refl _ | (simp; done) | (simp; omega) | omega) _ | with_reducible refine Below.alloc ?_ (by first | exact Nat.le_refl _ | (simp; done) | (simp; omega) | omega) _ | with_reducible exact Below.refl _ _ | with_reducible assumption))
    clear hb
    try clear hk
    have hk := hk_new
    clear hk_new
    clear h1 h2 h3 h4
    have hk' := hk
    obtain ⟨h1, h2, h3, h4⟩ := hk'
    simp only [cellsAre_cons, cellsAre_nil, and_true] at h4
    clear lta_0 lta_1
    generalize w1.heap.size = b1 at *
    go_wp2_with fail
    refine (works_any _).mono ?_
    rintro e w4 ⟨rfl, hb⟩
    have hk_new : Keeps (b1 + 1) [(⟨b1, 0, none⟩, .int .i64 3), (⟨b1, 1, none⟩, .int .i64 v), (⟨b1, 2, none⟩, .slice none 0 0), (⟨w.heap.size, 0, none⟩, .int .i64 t), (⟨w.heap.size, 1, none⟩, .bool c), (⟨w.heap.size, 2, none⟩, .int .i64 s), (⟨w.heap.size, 3, none⟩, .int .i64 v), (⟨w.heap.size + 1, 0, none⟩, .int .i64 x0), (⟨w.heap.size + 1, 1, none⟩, .int .i64 x1), (⟨w.heap.size + 1, 2, none⟩, .int .i64 x2), (⟨w.heap.size + 1, 3, none⟩, .int .i64 x3), (⟨w.heap.size + 1, 4, none⟩, .int .i64 x4)] w w4 := by
      refine Keeps.below ⟨?_, by first | (simp; done) | (simp; omega) | omega, by first | (simp [List.forall_mem_cons]; done) | (simp [List.forall_mem_cons]; omega), by simp [cellsAre_cons, cellsAre_nil, go_sem, World.cell?_alloc_past, *]⟩ hb
      (repeat (first | with_reducible apply Below.drew | with_reducible refine Below.setCell ?_ (by first | exact Nat.le_refl _ | (simp; done) | (simp; omega) | omega) _ | with_reducible refine Below.alloc ?_ (by first | exact Nat.le_refl _ | (simp; done) | (simp; omega) | omega) _ | with_reducible exact Below.refl _ _ | with_reducible assumption))
    clear hb
    try clear hk
    have hk := hk_new
    clear hk_new
    clear h1 h2 h3 h4
    have hk' := hk
    obtain ⟨h1, h2, h3, h4⟩ := hk'
    simp only [cellsAre_cons, cellsAre_nil, and_true] at h4
    go_wp2_with fail
    go_ret
    exact ⟨rfl, h1⟩
  · go_enter Try.func9, Try.ntmps9
    go_wp2_with fail
    refine (D.out _).mono ?_
    rintro e w1 ⟨rfl, hb⟩
    have hk_new : Keeps (w.heap.size + 2) [(⟨w.heap.size, 0, none⟩, .int .i64 t), (⟨w.heap.size, 1, none⟩, .bool c), (⟨w.heap.size, 2, none⟩, .int .i64 s), (⟨w.heap.size, 3, none⟩, .int .i64 v), (⟨w.heap.size + 1, 0, none⟩, .int .i64 x0), (⟨w.heap.size + 1, 1, none⟩, .int .i64 x1), (⟨w.heap.size + 1, 2, none⟩, .int .i64 x2), (⟨w.heap.size + 1, 3, none⟩, .int .i64 x3), (⟨w.heap.size + 1, 4, none⟩, .int .i64 x4)] w w1 := by
      refine Keeps.below ⟨?_, by first | (simp; done) | (simp; omega) | omega, by first | (simp [List.forall_mem_cons]; done) | (simp [List.forall_mem_cons]; omega), by simp [cellsAre_cons, cellsAre_nil, go_sem, World.cell?_alloc_past, *]⟩ hb
      (repeat (first | with_reducible apply Below.drew | with_reducible refine Below.setCell ?_ (by first | exact Nat.le_refl _ | (simp; done) | (simp; omega) | omega) _ | with_reducible refine Below.alloc ?_ (by first | exact Nat.le_refl _ | (simp; done) | (simp; omega) | omega) _ | with_reducible exact Below.refl _ _ | with_reducible assumption))
    clear hb
    try clear hk
    have hk := hk_new
    clear hk_new
    have hk' := hk
    obtain ⟨h1, h2, h3, h4⟩ := hk'
    simp only [cellsAre_cons, cellsAre_nil, and_true] at h4
    have lta_0 : w.heap.size < w1.heap.size := by omega
    have nea_0 : ¬ w.heap.size = w1.heap.size := by omega
    have nfa_0 : ¬ w1.heap.size = w.heap.size := by omega
    have lta_1 : w.heap.size + 1 < w1.heap.size := by omega
    have nea_1 : ¬ w.heap.size + 1 = w1.heap.size := by omega
    have nfa_1 : ¬ w1.heap.size = w.heap.size + 1 := by omega
    have h2a := h2
    go_wp2_with fail
    refine (law_may _ _ _ _ _).mono ?_
    rintro e w2 ⟨rfl, hb⟩
    have hk_new : Keeps (w1.heap.size + 1) [(⟨w1.heap.size, 0, none⟩, .int .i64 7), (⟨w1.heap.size, 1, none⟩, .int .i64 v), (⟨w1.heap.size, 2, none⟩, .slice none 0 0), (⟨w.heap.size, 0, none⟩, .int .i64 t), (⟨w.heap.size, 1, none⟩, .bool c), (⟨w.heap.size, 2, none⟩, .int .i64 s), (⟨w.heap.size, 3, none⟩, .int .i64 v), (⟨w.heap.size + 1, 0, none⟩, .int .i64 x0), (⟨w.heap.size + 1, 1, none⟩, .int .i64 x1), (⟨w.heap.size + 1, 2, none⟩, .int .i64 x2), (⟨w.heap.size + 1, 3, none⟩, .int .i64 x3), (⟨w.heap.size + 1, 4, none⟩, .int .i64 x4)] w w2 := by
      refine Keeps.below ⟨?_, by first | (simp; done) | (simp; omega) | omega, by first | (simp [List.forall_mem_cons]; done) | (simp [List.forall_mem_cons]; omega), by simp [cellsAre_cons, cellsAre_nil, go_sem, World.cell?_alloc_past, *]⟩ hb
      (repeat (first | with_reducible apply Below.drew | with_reducible refine Below.setCell ?_ (by first | exact Nat.le_refl _ | (simp; done) | (simp; omega) | omega) _ | with_reducible refine Below.alloc ?_ (by first | exact Nat.le_refl _ | (simp; done) | (simp; omega) | omega) _ | with_reducible exact Below.refl _ _ | with_reducible assumption))
    clear hb
    try clear hk
    have hk := hk_new
    clear hk_new
    clear h1 h2 h3 h4
    have hk' := hk
    obtain ⟨h1, h2, h3, h4⟩ := hk'
    simp only [cellsAre_cons, cellsAre_nil, and_true] at h4
    clear lta_0 lta_1
    generalize w1.heap.size = b1 at *
    go_wp2_with fail
    refine (works_any _).mono ?_
    rintro e w4 ⟨rfl, hb⟩
    have hk_new : Keeps (b1 + 1) [(⟨b1, 0, none⟩, .int .i64 7), (⟨b1, 1, none⟩, .int .i64 v), (⟨b1, 2, none⟩, .slice none 0 0), (⟨w.heap.size, 0, none⟩, .int .i64 t), (⟨w.heap.size, 1, none⟩, .bool c), (⟨w.heap.size, 2, none⟩, .int .i64 s), (⟨w.heap.size, 3, none⟩, .int .i64 v), (⟨w.heap.size + 1, 0, none⟩, .int .i64 x0), (⟨w.heap.size + 1, 1, none⟩, .int .i64 x1), (⟨w.heap.size + 1, 2, none⟩, .int .i64 x2), (⟨w.heap.size + 1, 3, none⟩, .int .i64 x3), (⟨w.heap.size + 1, 4, none⟩, .int .i64 x4)] w w4 := by
      refine Keeps.below ⟨?_, by first | (simp; done) | (simp; omega) | omega, by first | (simp [List.forall_mem_cons]; done) | (simp [List.forall_mem_cons]; omega), by simp [cellsAre_cons, cellsAre_nil, go_sem, World.cell?_alloc_past, *]⟩ hb
      (repeat (first | with_reducible apply Below.drew | with_reducible refine Below.setCell ?_ (by first | exact Nat.le_refl _ | (simp; done) | (simp; omega) | omega) _ | with_reducible refine Below.alloc ?_ (by first | exact Nat.le_refl _ | (simp; done) | (simp; omega) | omega) _ | with_reducible exact Below.refl _ _ | with_reducible assumption))
    clear hb
    try clear hk
    have hk := hk_new
    clear hk_new
    clear h1 h2 h3 h4
    have hk' := hk
    obtain ⟨h1, h2, h3, h4⟩ := hk'
    simp only [cellsAre_cons, cellsAre_nil, and_true] at h4
    go_wp2_with fail
    go_ret
    exact ⟨rfl, h1⟩

set_option maxHeartbeats 8000000 in
theorem lead_yes (t s v x0 x1 x2 x3 x4 : Int) (c : Bool) (w : World) (hm : mayS ⟨t, c, s, v⟩ = true) (hv : v ≤ 1099511627776) (hv0 : 0 ≤ v) (aa pt ps : Int) (pc : Bool) (hx : x2 < 0 ∨ (0 ≤ x2 ∧ (x2 == v) = true))
    (hd : ∀ w, Calls Try.prog 24 #[.agg #[.int .i64 t, .bool c, .int .i64 s, .int .i64 v], .agg #[.int .i64 x0, .int .i64 x1, .int .i64 x2, .int .i64 x3, .int .i64 x4]] w fun e w' => OutNew w w' (v + 1) x3 aa e) (hp : applyS ⟨t, c, s, v⟩ ⟨x3, aa⟩ = ⟨pt, pc, ps, v + 1⟩) (hmp : mayS ⟨pt, pc, ps, v + 1⟩ = true) :
    Calls Try.prog 9 #[.agg #[.int .i64 t, .bool c, .int .i64 s, .int .i64 v], .agg #[.int .i64 x0, .int .i64 x1, .int .i64 x2, .int .i64 x3, .int .i64 x4]] w fun e w' => e = .returned (.bool true) ∧ Below w.heap.size w w' := by
  have D := Lib.hid hd
  clear hd
  have hbe := fun (g : Nat) (w : World) => behind_one t s v 1 (v + 1) x3 aa c g w
  rw [hp] at hbe
  dsimp only at hbe
  have B := Lib.hid hbe
  clear hbe hp
  have hne : (v + 1 == v) = false := by simp; omega
  rcases hx with hx | ⟨hx, hx2⟩
  · go_enter Try.func9, Try.ntmps9
    go_wp2_with fail
    refine (D.out _).mono ?_
    rintro e w1 ho
    obtain ⟨g1, rfl, hg1_g1, hg2_g1, hg3_g1, hg4_g1, hg5_g1, hg6_g1, hb⟩ := ho
    have hk0 : Keeps (w.heap.size + 2) [(⟨w.heap.size, 0, none⟩, .int .i64 t), (⟨w.heap.size, 1, none⟩, .bool c), (⟨w.heap.size, 2, none⟩, .int .i64 s), (⟨w.heap.size, 3, none⟩, .int .i64 v), (⟨w.heap.size + 1, 0, none⟩, .int .i64 x0), (⟨w.heap.size + 1, 1, none⟩, .int .i64 x1), (⟨w.heap.size + 1, 2, none⟩, .int .i64 x2), (⟨w.heap.size + 1, 3, none⟩, .int .i64 x3), (⟨w.heap.size + 1, 4, none⟩, .int .i64 x4)] w w1 := by
      refine Keeps.below ⟨?_, by first | (simp; done) | (simp; omega) | omega, by first | (simp [List.forall_mem_cons]; done) | (simp [List.forall_mem_cons]; omega), by simp [cellsAre_cons, cellsAre_nil, go_sem, World.cell?_alloc_past, *]⟩ hb
      (repeat (first | with_reducible apply Below.drew | with_reducible refine Below.setCell ?_ (by first | exact Nat.le_refl _ | (simp; done) | (simp; omega) | omega) _ | with_reducible refine Below.alloc ?_ (by first | exact Nat.le_refl _ | (simp; done) | (simp; omega) | omega) _ | with_reducible exact Below.refl _ _ | with_reducible assumption))
    simp at hg1_g1
    have hk_new : Keeps (w1.heap.size) ([(⟨g1, 0, none⟩, .int .i64 x3), (⟨g1, 1, none⟩, .int .i64 aa)] ++ [(⟨w.heap.size, 0, none⟩, .int .i64 t), (⟨w.heap.size, 1, none⟩, .bool c), (⟨w.heap.size, 2, none⟩, .int .i64 s), (⟨w.heap.size, 3, none⟩, .int .i64 v), (⟨w.heap.size + 1, 0, none⟩, .int .i64 x0), (⟨w.heap.size + 1, 1, none⟩, .int .i64 x1), (⟨w.heap.size + 1, 2, none⟩, .int .i64 x2), (⟨w.heap.size + 1, 3, none⟩, .int .i64 x3), (⟨w.heap.size + 1, 4, none⟩, .int .i64 x4)]) w w1 :=
      Keeps.more hk0 hk0.2.1 (Nat.le_refl _) (by simp [hg2_g1]) (by simp [cellsAre_cons, cellsAre_nil, hg3_g1, hg4_g1, hg5_g1, hg6_g1])
    simp only [List.cons_append, List.nil_append] at hk_new
    have hs0 := hk0.2.1
    clear hb hk0 hg3_g1 hg4_g1 hg5_g1 hg6_g1
    try clear hk
    have hk := hk_new
    clear hk_new
    have hk' := hk
    obtain ⟨h1, h2, h3, h4⟩ := hk'
    simp only [cellsAre_cons, cellsAre_nil, and_true] at h4
    have lta_0 : w.heap.size < w1.heap.size := by omega
    have nea_0 : ¬ w.heap.size = w1.heap.size := by omega
    have nfa_0 : ¬ w1.heap.size = w.heap.size := by omega
    have lta_1 : w.heap.size + 1 < w1.heap.size := by omega
    have nea_1 : ¬ w.heap.size + 1 = w1.heap.size := by omega
    have nfa_1 : ¬ w1.heap.size = w.heap.size + 1 := by omega
    have lta_2 : g1 < w1.heap.size := by omega
    have nea_2 : ¬ g1 = w1.heap.size := by omega
    have nfa_2 : ¬ w1.heap.size = g1 := by omega
    have h2a := h2
    go_wp2_with fail
    refine (law_may _ _ _ _ _).mono ?_
    rintro e w2 ⟨rfl, hb⟩
    have hk_new : Keeps (w1.heap.size + 1) [(⟨w1.heap.size, 0, none⟩, .int .i64 1), (⟨w1.heap.size, 1, none⟩, .int .i64 (v + 1)), (⟨w1.heap.size, 2, none⟩, .slice (some ⟨g1, 0, none⟩) 1 1), (⟨g1, 0, none⟩, .int .i64 x3), (⟨g1, 1, none⟩, .int .i64 aa), (⟨w.heap.size, 0, none⟩, .int .i64 t), (⟨w.heap.size, 1, none⟩, .bool c), (⟨w.heap.size, 2, none⟩, .int .i64 s), (⟨w.heap.size, 3, none⟩, .int .i64 v), (⟨w.heap.size + 1, 0, none⟩, .int .i64 x0), (⟨w.heap.size + 1, 1, none⟩, .int .i64 x1), (⟨w.heap.size + 1, 2, none⟩, .int .i64 x2), (⟨w.heap.size + 1, 3, none⟩, .int .i64 x3), (⟨w.heap.size + 1, 4, none⟩, .int .i64 x4)] w w2 := by
      refine Keeps.below ⟨?_, by first | (simp; done) | (simp; omega) | omega, by first | (simp [List.forall_mem_cons]; done) | (simp [List.forall_mem_cons]; omega), by simp [cellsAre_cons, cellsAre_nil, go_sem, World.cell?_alloc_past, *]⟩ hb
      (repeat (first | with_reducible apply Below.drew | with_reducible refine Below.setCell ?_ (by first | exact Nat.le_refl _ | (simp; done) | (simp; omega) | omega) _ | with_reducible refine Below.alloc ?_ (by first | exact Nat.le_refl _ | (simp; done) | (simp; omega) | omega) _ | with_reducible exact Below.refl _ _ | with_reducible assumption))
    clear hb
    try clear hk
    have hk := hk_new
    clear hk_new
    clear h1 h2 h3 h4
    have hk' := hk
    obtain ⟨h1, h2, h3, h4⟩ := hk'
    simp only [cellsAre_cons, cellsAre_nil, and_true] at h4
    clear lta_0 lta_1 lta_2
    generalize w1.heap.size = b1 at *
    have ltb_0 : w.heap.size < w2.heap.size := by omega
    have neb_0 : ¬ w.heap.size = w2.heap.size := by omega
    have nfb_0 : ¬ w2.heap.size = w.heap.size := by omega
    have ltb_1 : w.heap.size + 1 < w2.heap.size := by omega
    have neb_1 : ¬ w.heap.size + 1 = w2.heap.size := by omega
    have nfb_1 : ¬ w2.heap.size = w.heap.size + 1 := by omega
    have ltb_2 : g1 < w2.heap.size := by omega
    have neb_2 : ¬ g1 = w2.heap.size := by omega
    have nfb_2 : ¬ w2.heap.size = g1 := by omega
    have ltb_3 : b1 < w2.heap.size := by omega
    have neb_3 : ¬ b1 = w2.heap.size := by omega
    have nfb_3 : ¬ w2.heap.size = b1 := by omega
    have h2b := h2
    go_wp2_with fail
    refine (B.out g1 _ ?_ ?_ ?_).mono ?_
    · omega
    · simp [h4]
    · simp [h4]
    rintro e w3 ⟨rfl, hb⟩
    have hk_new : Keeps (b1 + 1) [(⟨b1, 0, none⟩, .int .i64 1), (⟨b1, 1, none⟩, .int .i64 (v + 1)), (⟨b1, 2, none⟩, .slice (some ⟨g1, 0, none⟩) 1 1), (⟨g1, 0, none⟩, .int .i64 x3), (⟨g1, 1, none⟩, .int .i64 aa), (⟨w.heap.size, 0, none⟩, .int .i64 t), (⟨w.heap.size, 1, none⟩, .bool c), (⟨w.heap.size, 2, none⟩, .int .i64 s), (⟨w.heap.size, 3, none⟩, .int .i64 v), (⟨w.heap.size + 1, 0, none⟩, .int .i64 x0), (⟨w.heap.size + 1, 1, none⟩, .int .i64 x1), (⟨w.heap.size + 1, 2, none⟩, .int .i64 x2), (⟨w.heap.size + 1, 3, none⟩, .int .i64 x3), (⟨w.heap.size + 1, 4, none⟩, .int .i64 x4)] w w3 := by
      refine Keeps.below ⟨?_, by first | (simp; done) | (simp; omega) | omega, by first | (simp [List.forall_mem_cons]; done) | (simp [List.forall_mem_cons]; omega), by simp [cellsAre_cons, cellsAre_nil, go_sem, World.cell?_alloc_past, *]⟩ hb
      (repeat (first | with_reducible apply Below.drew | with_reducible refine Below.setCell ?_ (by first | exact Nat.le_refl _ | (simp; done) | (simp; omega) | omega) _ | with_reducible refine Below.alloc ?_ (by first | exact Nat.le_refl _ | (simp; done) | (simp; omega) | omega) _ | with_reducible exact Below.refl _ _ | with_reducible assumption))
    clear hb
    try clear hk
    have hk := hk_new
    clear hk_new
    clear h1 h2 h3 h4
    have hk' := hk
    obtain ⟨h1, h2, h3, h4⟩ := hk'
    simp only [cellsAre_cons, cellsAre_nil, and_true] at h4
    clear ltb_0 ltb_1 ltb_2 ltb_3
    have ltd_0 : w.heap.size < w3.heap.size := by omega
    have ned_0 : ¬ w.heap.size = w3.heap.size := by omega
    have nfd_0 : ¬ w3.heap.size = w.heap.size := by omega
    have ltd_1 : w.heap.size + 1 < w3.heap.size := by omega
    have ned_1 : ¬ w.heap.size + 1 = w3.heap.size := by omega
    have nfd_1 : ¬ w3.heap.size = w.heap.size + 1 := by omega
    have ltd_2 : g1 < w3.heap.size := by omega
    have ned_2 : ¬ g1 = w3.heap.size := by omega
    have nfd_2 : ¬ w3.heap.size = g1 := by omega
    have ltd_3 : b1 < w3.heap.size := by omega
    have ned_3 : ¬ b1 = w3.heap.size := by omega
    have nfd_3 : ¬ w3.heap.size = b1 := by omega
    have h2d := h2
    go_wp2_with fail
    refine (law_may _ _ _ _ _).mono ?_
    rintro e w4 ⟨rfl, hb⟩
    have hk_new : Keeps (w3.heap.size + 1) [(⟨w3.heap.size, 0, none⟩, .int .i64 pt), (⟨w3.heap.size, 1, none⟩, .bool pc), (⟨w3.heap.size, 2, none⟩, .int .i64 ps), (⟨w3.heap.size, 3, none⟩, .int .i64 (v + 1)), (⟨b1, 0, none⟩, .int .i64 1), (⟨b1, 1, none⟩, .int .i64 (v + 1)), (⟨b1, 2, none⟩, .slice (some ⟨g1, 0, none⟩) 1 1), (⟨g1, 0, none⟩, .int .i64 x3), (⟨g1, 1, none⟩, .int .i64 aa), (⟨w.heap.size, 0, none⟩, .int .i64 t), (⟨w.heap.size, 1, none⟩, .bool c), (⟨w.heap.size, 2, none⟩, .int .i64 s), (⟨w.heap.size, 3, none⟩, .int .i64 v), (⟨w.heap.size + 1, 0, none⟩, .int .i64 x0), (⟨w.heap.size + 1, 1, none⟩, .int .i64 x1), (⟨w.heap.size + 1, 2, none⟩, .int .i64 x2), (⟨w.heap.size + 1, 3, none⟩, .int .i64 x3), (⟨w.heap.size + 1, 4, none⟩, .int .i64 x4)] w w4 := by
      refine Keeps.below ⟨?_, by first | (simp; done) | (simp; omega) | omega, by first | (simp [List.forall_mem_cons]; done) | (simp [List.forall_mem_cons]; omega), by simp [cellsAre_cons, cellsAre_nil, go_sem, World.cell?_alloc_past, *]⟩ hb
      (repeat (first | with_reducible apply Below.drew | with_reducible refine Below.setCell ?_ (by first | exact Nat.le_refl _ | (simp; done) | (simp; omega) | omega) _ | with_reducible refine Below.alloc ?_ (by first | exact Nat.le_refl _ | (simp; done) | (simp; omega) | omega) _ | with_reducible exact Below.refl _ _ | with_reducible assumption))
    clear hb
    try clear hk
    have hk := hk_new
    clear hk_new
    clear h1 h2 h3 h4
    have hk' := hk
    obtain ⟨h1, h2, h3, h4⟩ := hk'
    simp only [cellsAre_cons, cellsAre_nil, and_true] at h4
    clear ltd_0 ltd_1 ltd_2 ltd_3
    generalize w3.heap.size = b2 at *
    go_wp2_with fail
    refine (works_any _).mono ?_
    rintro e w5 ⟨rfl, hb⟩
    have hk_new : Keeps (b2 + 1) [(⟨b2, 0, none⟩, .int .i64 pt), (⟨b2, 1, none⟩, .bool pc), (⟨b2, 2, none⟩, .int .i64 ps), (⟨b2, 3, none⟩, .int .i64 (v + 1)), (⟨b1, 0, none⟩, .int .i64 1), (⟨b1, 1, none⟩, .int .i64 (v + 1)), (⟨b1, 2, none⟩, .slice (some ⟨g1, 0, none⟩) 1 1), (⟨g1, 0, none⟩, .int .i64 x3), (⟨g1, 1, none⟩, .int .i64 aa), (⟨w.heap.size, 0, none⟩, .int .i64 t), (⟨w.heap.size, 1, none⟩, .bool c), (⟨w.heap.size, 2, none⟩, .int .i64 s), (⟨w.heap.size, 3, none⟩, .int .i64 v), (⟨w.heap.size + 1, 0, none⟩, .int .i64 x0), (⟨w.heap.size + 1, 1, none⟩, .int .i64 x1), (⟨w.heap.size + 1, 2, none⟩, .int .i64 x2), (⟨w.heap.size + 1, 3, none⟩, .int .i64 x3), (⟨w.heap.size + 1, 4, none⟩, .int .i64 x4)] w w5 := by
      refine Keeps.below ⟨?_, by first | (simp; done) | (simp; omega) | omega, by first | (simp [List.forall_mem_cons]; done) | (simp [List.forall_mem_cons]; omega), by simp [cellsAre_cons, cellsAre_nil, go_sem, World.cell?_alloc_past, *]⟩ hb
      (repeat (first | with_reducible apply Below.drew | with_reducible refine Below.setCell ?_ (by first | exact Nat.le_refl _ | (simp; done) | (simp; omega) | omega) _ | with_reducible refine Below.alloc ?_ (by first | exact Nat.le_refl _ | (simp; done) | (simp; omega) | omega) _ | with_reducible exact Below.refl _ _ | with_reducible assumption))
    clear hb
    try clear hk
    have hk := hk_new
    clear hk_new
    clear h1 h2 h3 h4
    have hk' := hk
    obtain ⟨h1, h2, h3, h4⟩ := hk'
    simp only [cellsAre_cons, cellsAre_nil, and_true] at h4
    go_wp2_with fail
    go_ret
    exact ⟨rfl, h1⟩
  · go_enter Try.func9, Try.ntmps9
    go_wp2_with fail
    refine (D.out _).mono ?_
    rintro e w1 ho
    obtain ⟨g1, rfl, hg1_g1, hg2_g1, hg3_g1, hg4_g1, hg5_g1, hg6_g1, hb⟩ := ho
    have hk0 : Keeps (w.heap.size + 2) [(⟨w.heap.size, 0, none⟩, .int .i64 t), (⟨w.heap.size, 1, none⟩, .bool c), (⟨w.heap.size, 2, none⟩, .int .i64 s), (⟨w.heap.size, 3, none⟩, .int .i64 v), (⟨w.heap.size + 1, 0, none⟩, .int .i64 x0), (⟨w.heap.size + 1, 1, none⟩, .int .i64 x1), (⟨w.heap.size + 1, 2, none⟩, .int .i64 x2), (⟨w.heap.size + 1, 3, none⟩, .int .i64 x3), (⟨w.heap.size + 1, 4, none⟩, .int .i64 x4)] w w1 := by
      refine Keeps.below ⟨?_, by first | (simp; done) | (simp; omega) | omega, by first | (simp [List.forall_mem_cons]; done) | (simp [List.forall_mem_cons]; omega), by simp [cellsAre_cons, cellsAre_nil, go_sem, World.cell?_alloc_past, *]⟩ hb
      (repeat (first | with_reducible apply Below.drew | with_reducible refine Below.setCell ?_ (by first | exact Nat.le_refl _ | (simp; done) | (simp; omega) | omega) _ | with_reducible refine Below.alloc ?_ (by first | exact Nat.le_refl _ | (simp; done) | (simp; omega) | omega) _ | with_reducible exact Below.refl _ _ | with_reducible assumption))
    simp at hg1_g1
    have hk_new : Keeps (w1.heap.size) ([(⟨g1, 0, none⟩, .int .i64 x3), (⟨g1, 1, none⟩, .int .i64 aa)] ++ [(⟨w.heap.size, 0, none⟩, .int .i64 t), (⟨w.heap.size, 1, none⟩, .bool c), (⟨w.heap.size, 2, none⟩, .int .i64 s), (⟨w.heap.size, 3, none⟩, .int .i64 v), (⟨w.heap.size + 1, 0, none⟩, .int .i64 x0), (⟨w.heap.size + 1, 1, none⟩, .int .i64 x1), (⟨w.heap.size + 1, 2, none⟩, .int .i64 x2), (⟨w.heap.size + 1, 3, none⟩, .int .i64 x3), (⟨w.heap.size + 1, 4, none⟩, .int .i64 x4)]) w w1 :=
      Keeps.more hk0 hk0.2.1 (Nat.le_refl _) (by simp [hg2_g1]) (by simp [cellsAre_cons, cellsAre_nil, hg3_g1, hg4_g1, hg5_g1, hg6_g1])
    simp only [List.cons_append, List.nil_append] at hk_new
    have hs0 := hk0.2.1
    clear hb hk0 hg3_g1 hg4_g1 hg5_g1 hg6_g1
    try clear hk
    have hk := hk_new
    clear hk_new
    have hk' := hk
    obtain ⟨h1, h2, h3, h4⟩ := hk'
    simp only [cellsAre_cons, cellsAre_nil, and_true] at h4
    have lta_0 : w.heap.size < w1.heap.size := by omega
    have nea_0 : ¬ w.heap.size = w1.heap.size := by omega
    have nfa_0 : ¬ w1.heap.size = w.heap.size := by omega
    have lta_1 : w.heap.size + 1 < w1.heap.size := by omega
    have nea_1 : ¬ w.heap.size + 1 = w1.heap.size := by omega
    have nfa_1 : ¬ w1.heap.size = w.heap.size + 1 := by omega
    have lta_2 : g1 < w1.heap.size := by omega
    have nea_2 : ¬ g1 = w1.heap.size := by omega
    have nfa_2 : ¬ w1.heap.size = g1 := by omega
    have h2a := h2
    go_wp2_with fail
    refine (law_may _ _ _ _ _).mono ?_
    rintro e w2 ⟨rfl, hb⟩
    have hk_new : Keeps (w1.heap.size + 1) [(⟨w1.heap.size, 0, none⟩, .int .i64 1), (⟨w1.heap.size, 1, none⟩, .int .i64 (v + 1)), (⟨w1.heap.size, 2, none⟩, .slice (some ⟨g1, 0, none⟩) 1 1), (⟨g1, 0, none⟩, .int .i64 x3), (⟨g1, 1, none⟩, .int .i64 aa), (⟨w.heap.size, 0, none⟩, .int .i64 t), (⟨w.heap.size, 1, none⟩, .bool c), (⟨w.heap.size, 2, none⟩, .int .i64 s), (⟨w.heap.size, 3, none⟩, .int .i64 v), (⟨w.heap.size + 1, 0, none⟩, .int .i64 x0), (⟨w.heap.size + 1, 1, none⟩, .int .i64 x1), (⟨w.heap.size + 1, 2, none⟩, .int .i64 x2), (⟨w.heap.size + 1, 3, none⟩, .int .i64 x3), (⟨w.heap.size + 1, 4, none⟩, .int .i64 x4)] w w2 := by
      refine Keeps.below ⟨?_, by first | (simp; done) | (simp; omega) | omega, by first | (simp [List.forall_mem_cons]; done) | (simp [List.forall_mem_cons]; omega), by simp [cellsAre_cons, cellsAre_nil, go_sem, World.cell?_alloc_past, *]⟩ hb
      (repeat (first | with_reducible apply Below.drew | with_reducible refine Below.setCell ?_ (by first | exact Nat.le_refl _ | (simp; done) | (simp; omega) | omega) _ | with_reducible refine Below.alloc ?_ (by first | exact Nat.le_refl _ | (simp; done) | (simp; omega) | omega) _ | with_reducible exact Below.refl _ _ | with_reducible assumption))
    clear hb
    try clear hk
    have hk := hk_new
    clear hk_new
    clear h1 h2 h3 h4
    have hk' := hk
    obtain ⟨h1, h2, h3, h4⟩ := hk'
    simp only [cellsAre_cons, cellsAre_nil, and_true] at h4
    clear lta_0 lta_1 lta_2
    generalize w1.heap.size = b1 at *
    have ltb_0 : w.heap.size < w2.heap.size := by omega
    have neb_0 : ¬ w.heap.size = w2.heap.size := by omega
    have nfb_0 : ¬ w2.heap.size = w.heap.size := by omega
    have ltb_1 : w.heap.size + 1 < w2.heap.size := by omega
    have neb_1 : ¬ w.heap.size + 1 = w2.heap.size := by omega
    have nfb_1 : ¬ w2.heap.size = w.heap.size + 1 := by omega
    have ltb_2 : g1 < w2.heap.size := by omega
    have neb_2 : ¬ g1 = w2.heap.size := by omega
    have nfb_2 : ¬ w2.heap.size = g1 := by omega
    have ltb_3 : b1 < w2.heap.size := by omega
    have neb_3 : ¬ b1 = w2.heap.size := by omega
    have nfb_3 : ¬ w2.heap.size = b1 := by omega
    have h2b := h2
    go_wp2_with fail
    refine (B.out g1 _ ?_ ?_ ?_).mono ?_
    · omega
    · simp [h4]
    · simp [h4]
    rintro e w3 ⟨rfl, hb⟩
    have hk_new : Keeps (b1 + 1) [(⟨b1, 0, none⟩, .int .i64 1), (⟨b1, 1, none⟩, .int .i64 (v + 1)), (⟨b1, 2, none⟩, .slice (some ⟨g1, 0, none⟩) 1 1), (⟨g1, 0, none⟩, .int .i64 x3), (⟨g1, 1, none⟩, .int .i64 aa), (⟨w.heap.size, 0, none⟩, .int .i64 t), (⟨w.heap.size, 1, none⟩, .bool c), (⟨w.heap.size, 2, none⟩, .int .i64 s), (⟨w.heap.size, 3, none⟩, .int .i64 v), (⟨w.heap.size + 1, 0, none⟩, .int .i64 x0), (⟨w.heap.size + 1, 1, none⟩, .int .i64 x1), (⟨w.heap.size + 1, 2, none⟩, .int .i64 x2), (⟨w.heap.size + 1, 3, none⟩, .int .i64 x3), (⟨w.heap.size + 1, 4, none⟩, .int .i64 x4)] w w3 := by
      refine Keeps.below ⟨?_, by first | (simp; done) | (simp; omega) | omega, by first | (simp [List.forall_mem_cons]; done) | (simp [List.forall_mem_cons]; omega), by simp [cellsAre_cons, cellsAre_nil, go_sem, World.cell?_alloc_past, *]⟩ hb
      (repeat (first | with_reducible apply Below.drew | with_reducible refine Below.setCell ?_ (by first | exact Nat.le_refl _ | (simp; done) | (simp; omega) | omega) _ | with_reducible refine Below.alloc ?_ (by first | exact Nat.le_refl _ | (simp; done) | (simp; omega) | omega) _ | with_reducible exact Below.refl _ _ | with_reducible assumption))
    clear hb
    try clear hk
    have hk := hk_new
    clear hk_new
    clear h1 h2 h3 h4
    have hk' := hk
    obtain ⟨h1, h2, h3, h4⟩ := hk'
    simp only [cellsAre_cons, cellsAre_nil, and_true] at h4
    clear ltb_0 ltb_1 ltb_2 ltb_3
    have ltd_0 : w.heap.size < w3.heap.size := by omega
    have ned_0 : ¬ w.heap.size = w3.heap.size := by omega
    have nfd_0 : ¬ w3.heap.size = w.heap.size := by omega
    have ltd_1 : w.heap.size + 1 < w3.heap.size := by omega
    have ned_1 : ¬ w.heap.size + 1 = w3.heap.size := by omega
    have nfd_1 : ¬ w3.heap.size = w.heap.size + 1 := by omega
    have ltd_2 : g1 < w3.heap.size := by omega
    have ned_2 : ¬ g1 = w3.heap.size := by omega
    have nfd_2 : ¬ w3.heap.size = g1 := by omega
    have ltd_3 : b1 < w3.heap.size := by omega
    have ned_3 : ¬ b1 = w3.heap.size := by omega
    have nfd_3 : ¬ w3.heap.size = b1 := by omega
    have h2d := h2
    go_wp2_with fail
    refine (law_may _ _ _ _ _).mono ?_
    rintro e w4 ⟨rfl, hb⟩
    have hk_new : Keeps (w3.heap.size + 1) [(⟨w3.heap.size, 0, none⟩, .int .i64 pt), (⟨w3.heap.size, 1, none⟩, .bool pc), (⟨w3.heap.size, 2, none⟩, .int .i64 ps), (⟨w3.heap.size, 3, none⟩, .int .i64 (v + 1)), (⟨b1, 0, none⟩, .int .i64 1), (⟨b1, 1, none⟩, .int .i64 (v + 1)), (⟨b1, 2, none⟩, .slice (some ⟨g1, 0, none⟩) 1 1), (⟨g1, 0, none⟩, .int .i64 x3), (⟨g1, 1, none⟩, .int .i64 aa), (⟨w.heap.size, 0, none⟩, .int .i64 t), (⟨w.heap.size, 1, none⟩, .bool c), (⟨w.heap.size, 2, none⟩, .int .i64 s), (⟨w.heap.size, 3, none⟩, .int .i64 v), (⟨w.heap.size + 1, 0, none⟩, .int .i64 x0), (⟨w.heap.size + 1, 1, none⟩, .int .i64 x1), (⟨w.heap.size + 1, 2, none⟩, .int .i64 x2), (⟨w.heap.size + 1, 3, none⟩, .int .i64 x3), (⟨w.heap.size + 1, 4, none⟩, .int .i64 x4)] w w4 := by
      refine Keeps.below ⟨?_, by first | (simp; done) | (simp; omega) | omega, by first | (simp [List.forall_mem_cons]; done) | (simp [List.forall_mem_cons]; omega), by simp [cellsAre_cons, cellsAre_nil, go_sem, World.cell?_alloc_past, *]⟩ hb
      (repeat (first | with_reducible apply Below.drew | with_reducible refine Below.setCell ?_ (by first | exact Nat.le_refl _ | (simp; done) | (simp; omega) | omega) _ | with_reducible refine Below.alloc ?_ (by first | exact Nat.le_refl _ | (simp; done) | (simp; omega) | omega) _ | with_reducible exact Below.refl _ _ | with_reducible assumption))
    clear hb
    try clear hk
    have hk := hk_new
    clear hk_new
    clear h1 h2 h3 h4
    have hk' := hk
    obtain ⟨h1, h2, h3, h4⟩ := hk'
    simp only [cellsAre_cons, cellsAre_nil, and_true] at h4
    clear ltd_0 ltd_1 ltd_2 ltd_3
    generalize w3.heap.size = b2 at *
    go_wp2_with fail
    refine (works_any _).mono ?_
    rintro e w5 ⟨rfl, hb⟩
    have hk_new : Keeps (b2 + 1) [(⟨b2, 0, none⟩, .int .i64 pt), (⟨b2, 1, none⟩, .bool pc), (⟨b2, 2, none⟩, .int .i64 ps), (⟨b2, 3, none⟩, .int .i64 (v + 1)), (⟨b1, 0, none⟩, .int .i64 1), (⟨b1, 1, none⟩, .int .i64 (v + 1)), (⟨b1, 2, none⟩, .slice (some ⟨g1, 0, none⟩) 1 1), (⟨g1, 0, none⟩, .int .i64 x3), (⟨g1, 1, none⟩, .int .i64 aa), (⟨w.heap.size, 0, none⟩, .int .i64 t), (⟨w.heap.size, 1, none⟩, .bool c), (⟨w.heap.size, 2, none⟩, .int .i64 s), (⟨w.heap.size, 3, none⟩, .int .i64 v), (⟨w.heap.size + 1, 0, none⟩, .int .i64 x0), (⟨w.heap.size + 1, 1, none⟩, .int .i64 x1), (⟨w.heap.size + 1, 2, none⟩, .int .i64 x2), (⟨w.heap.size + 1, 3, none⟩, .int .i64 x3), (⟨w.heap.size + 1, 4, none⟩, .int .i64 x4)] w w5 := by
      refine Keeps.below ⟨?_, by first | (simp; done) | (simp; omega) | omega, by first | (simp [List.forall_mem_cons]; done) | (simp [List.forall_mem_cons]; omega), by simp [cellsAre_cons, cellsAre_nil, go_sem, World.cell?_alloc_past, *]⟩ hb
      (repeat (first | with_reducible apply Below.drew | with_reducible refine Below.setCell ?_ (by first | exact Nat.le_refl _ | (simp; done) | (simp; omega) | omega) _ | with_reducible refine Below.alloc ?_ (by first | exact Nat.le_refl _ | (simp; done) | (simp; omega) | omega) _ | with_reducible exact Below.refl _ _ | with_reducible assumption))
    clear hb
    try clear hk
    have hk := hk_new
    clear hk_new
    clear h1 h2 h3 h4
    have hk' := hk
    obtain ⟨h1, h2, h3, h4⟩ := hk'
    simp only [cellsAre_cons, cellsAre_nil, and_true] at h4
    go_wp2_with fail
    go_ret
    exact ⟨rfl, h1⟩

theorem law_lead (t s v x0 x1 x2 x3 x4 : Int) (c : Bool) (w : World) :
    Calls Try.prog 9 #[.agg #[.int .i64 t, .bool c, .int .i64 s, .int .i64 v], .agg #[.int .i64 x0, .int .i64 x1, .int .i64 x2, .int .i64 x3, .int .i64 x4]] w fun e w' => e = .returned (.bool true) ∧ Below w.heap.size w w' := by
  cases hm : mayS ⟨t, c, s, v⟩
  · exact lead_bad t s v x0 x1 x2 x3 x4 c w hm
  by_cases h : codeS ⟨t, c, s, v⟩ ⟨x0, x1, x2, x3, x4⟩ = 1
  · obtain ⟨_, ho, hx, hc⟩ := code_one h
    obtain ⟨_, _, q3, q4⟩ := mayS_bounds hm
    have he : evOf ⟨x0, x1, x2, x3, x4⟩ = ⟨x3, (evOf ⟨x0, x1, x2, x3, x4⟩).arg⟩ := rfl
    have hv := applyS_ver hm hc
    have hmp := mayS_apply (e := evOf ⟨x0, x1, x2, x3, x4⟩) hm
    have hp : applyS ⟨t, c, s, v⟩ (evOf ⟨x0, x1, x2, x3, x4⟩) = ⟨(applyS ⟨t, c, s, v⟩ (evOf ⟨x0, x1, x2, x3, x4⟩)).tag, (applyS ⟨t, c, s, v⟩ (evOf ⟨x0, x1, x2, x3, x4⟩)).closed, (applyS ⟨t, c, s, v⟩ (evOf ⟨x0, x1, x2, x3, x4⟩)).sum, v + 1⟩ := by
      rw [← show (applyS ⟨t, c, s, v⟩ (evOf ⟨x0, x1, x2, x3, x4⟩)).ver = v + 1 from hv]
    refine lead_yes t s v x0 x1 x2 x3 x4 c w hm q4 q3 _ _ _ _ ?_ (fun w => decide_yes t s v x0 x1 x2 x3 x4 c w h) hp (hp ▸ hmp)
    by_cases h0 : x2 < 0
    · exact .inl h0
    · exact .inr ⟨by omega, by simp; dsimp only at hx; omega⟩
  · obtain ⟨h1, h2⟩ := codeS_in hm h
    refine lead_no t s v x0 x1 x2 x3 x4 c w hm _ h1 fun w => ?_
    have := decide_no t s v x0 x1 x2 x3 x4 c w h
    rw [h2] at this
    exact this
end Go.Proofs.Ytigkfekidmjpbaa
