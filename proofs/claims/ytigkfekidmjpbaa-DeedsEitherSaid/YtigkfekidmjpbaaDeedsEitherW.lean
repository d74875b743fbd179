/-
  The walk over the statement 'DeedsEither'.
-/
import Derived.Test.YtigkfekidmjpbaaProg
import Derived.Test.YtigkfekidmjpbaaSeq
import Derived.WalkKit
import Derived.WalkSpells
import Derived.WalkLawsBesides
import Derived.RowKit3
import Derived.Lib.Hide
import Derived.Test.YtigkfekidmjpbaaDeedsLeadW
set_option linter.unusedSimpArgs false
set_option linter.unusedVariables false
namespace Go.Proofs.Ytigkfekidmjpbaa
open Go.RowKit Go.Sq Go.Arch

set_option maxHeartbeats 4000000 in
theorem either_out (t s v k0 a0 k1 a1 : Int) (c : Bool) (w : World) (h : mayS ⟨t, c, s, v⟩ = false ∨ ((k0 != 2) = true ∧ (k0 != 3) = true) ∨ (((k0 != 2) = false ∨ (k0 != 2) = true ∧ (k0 != 3) = false) ∧ (k1 != 2) = true ∧ (k1 != 3) = true)) :
    Calls Try.prog 12 #[.agg #[.int .i64 t, .bool c, .int .i64 s, .int .i64 v], .agg #[.int .i64 k0, .int .i64 a0, .int .i64 k1, .int .i64 a1]] w fun e w' => e = .returned (.bool true) ∧ Below w.heap.size w w' := by
  rcases Bool.eq_false_or_eq_true (mayS ⟨t, c, s, v⟩) with hm | hm
  · replace h : ((k0 != 2) = true ∧ (k0 != 3) = true) ∨ ((k0 != 2) = false ∧ (k1 != 2) = true ∧ (k1 != 3) = true) ∨ (((k0 != 2) = true ∧ (k0 != 3) = false) ∧ (k1 != 2) = true ∧ (k1 != 3) = true) := by
      rw [hm] at h
      simp only [Bool.true_eq_false, false_or] at h
      rcases h with h | ⟨h1 | h1, h2⟩
      · exact .inl h
      · exact .inr (.inl ⟨h1, h2⟩)
      · exact .inr (.inr ⟨h1, h2⟩)
    rcases h with ⟨e1, e2⟩ | ⟨e1, e2, e3⟩ | ⟨⟨e1, e0⟩, e2, e3⟩
    all_goals
      go_enter Try.func12, Try.ntmps12
      go_wp2_with fail
      refine (law_may _ _ _ _ _).mono ?_
      rintro e w1 ⟨rfl, hb⟩
      have hk_new : Keeps (w.heap.size + 2) [(⟨w.heap.size, 0, none⟩, .int .i64 t), (⟨w.heap.size, 1, none⟩, .bool c), (⟨w.heap.size, 2, none⟩, .int .i64 s), (⟨w.heap.size, 3, none⟩, .int .i64 v), (⟨w.heap.size + 1, 0, none⟩, .int .i64 k0), (⟨w.heap.size + 1, 1, none⟩, .int .i64 a0), (⟨w.heap.size + 1, 2, none⟩, .int .i64 k1), (⟨w.heap.size + 1, 3, none⟩, .int .i64 a1)] w w1 := by
        refine Keeps.below ⟨?_, by first | (simp; done) | (simp; omega) | omega, by first | (simp [List.forall_mem_cons]; done) | (simp [List.forall_mem_cons]; omega), by simp [cellsAre_cons, cellsAre_nil, go_sem, World.cell?_alloc_past, *]⟩ hb
        (repeat (first | with_reducible apply Below.drew | with_reducible refine Below.setCell ?_ (by first | exact Nat.le_refl _ | (simp; done) | (simp; omega) | omega) _ | with_reducible refine Below.alloc ?_ (by first | exact Nat.le_refl _ | (simp; done) | (simp; omega) | omega) _ | with_reducible exact Below.refl _ _ | with_reducible assumption))
      clear hb
      try clear hk
      have hk := hk_new
      clear hk_new
      have hk' := hk
      obtain ⟨h1, h2, h3, h4⟩ := hk'
      simp only [cellsAre_cons, cellsAre_nil, and_true] at h4
      go_wp2_with fail
      refine (works_any _).mono ?_
      rintro e w2 ⟨rfl, hb⟩
      have hk_new : Keeps (w.heap.size + 2) [(⟨w.heap.size, 0, none⟩, .int .i64 t), (⟨w.heap.size, 1, none⟩, .bool c), (⟨w.heap.size, 2, none⟩, .int .i64 s), (⟨w.heap.size, 3, none⟩, .int .i64 v), (⟨w.heap.size + 1, 0, none⟩, .int .i64 k0), (⟨w.heap.size + 1, 1, none⟩, .int .i64 a0), (⟨w.heap.size + 1, 2, none⟩, .int .i64 k1), (⟨w.heap.size + 1, 3, none⟩, .int .i64 a1)] w w2 := by
        refine Keeps.below ⟨?_, by first | (simp; done) | (simp; omega) | omega, by first | (simp [List.forall_mem_cons]; done) | (simp [List.forall_mem_cons]; omega), by simp [cellsAre_cons, cellsAre_nil, go_sem, World.cell?_alloc_past, *]⟩ hb
        (repeat (first | with_reducible apply Below.drew | with_reducible refine Below.setCell ?_ (by first | exact Nat.le_refl _ | (simp; done) | (simp; omega) | omega) _ | with_reducible refine Below.alloc ?_ (by first | exact Nat.le_refl _ | (simp; done) | (simp; omega) | omega) _ | with_reducible exact Below.refl _ _ | with_reducible assumption))
      clear hb
      try clear hk
      have hk := hk_new
      clear hk_new
      clear h1 h2 h3 h4
      have hk' := hk
      obtain ⟨h1, h2, h3, h4⟩ := hk'
      simp only [cellsAre_cons, cellsAre_nil, and_true] at h4
      go_wp2_with fail
      go_ret
      exact ⟨rfl, h1⟩
  · clear h
    go_enter Try.func12, Try.ntmps12
    go_wp2_with fail
    refine (law_may _ _ _ _ _).mono ?_
    rintro e w1 ⟨rfl, hb⟩
    have hk_new : Keeps (w.heap.size + 2) [(⟨w.heap.size, 0, none⟩, .int .i64 t), (⟨w.heap.size, 1, none⟩, .bool c), (⟨w.heap.size, 2, none⟩, .int .i64 s), (⟨w.heap.size, 3, none⟩, .int .i64 v), (⟨w.heap.size + 1, 0, none⟩, .int .i64 k0), (⟨w.heap.size + 1, 1, none⟩, .int .i64 a0), (⟨w.heap.size + 1, 2, none⟩, .int .i64 k1), (⟨w.heap.size + 1, 3, none⟩, .int .i64 a1)] w w1 := by
      refine Keeps.below ⟨?_, by first | (simp; done) | (simp; omega) | omega, by first | (simp [List.forall_mem_cons]; done) | (simp [List.forall_mem_cons]; omega), by simp [cellsAre_cons, cellsAre_nil, go_sem, World.cell?_alloc_past, *]⟩ hb
      (repeat (first | with_reducible apply Below.drew | with_reducible refine Below.setCell ?_ (by first | exact Nat.le_refl _ | (simp; done) | (simp; omega) | omega) _ | with_reducible refine Below.alloc ?_ (by first | exact Nat.le_refl _ | (simp; done) | (simp; omega) | omega) _ | with_reducible exact Below.refl _ _ | with_reducible assumption))
    clear hb
    try clear hk
    have hk := hk_new
    clear hk_new
    have hk' := hk
    obtain ⟨h1, h2, h3, h4⟩ := hk'
    simp only [cellsAre_cons, cellsAre_nil, and_true] at h4
    go_wp2_with fail
    refine (works_any _).mono ?_
    rintro e w2 ⟨rfl, hb⟩
    have hk_new : Keeps (w.heap.size + 2) [(⟨w.heap.size, 0, none⟩, .int .i64 t), (⟨w.heap.size, 1, none⟩, .bool c), (⟨w.heap.size, 2, none⟩, .int .i64 s), (⟨w.heap.size, 3, none⟩, .int .i64 v), (⟨w.heap.size + 1, 0, none⟩, .int .i64 k0), (⟨w.heap.size + 1, 1, none⟩, .int .i64 a0), (⟨w.heap.size + 1, 2, none⟩, .int .i64 k1), (⟨w.heap.size + 1, 3, none⟩, .int .i64 a1)] w w2 := by
      refine Keeps.below ⟨?_, by first | (simp; done) | (simp; omega) | omega, by first | (simp [List.forall_mem_cons]; done) | (simp [List.forall_mem_cons]; omega), by simp [cellsAre_cons, cellsAre_nil, go_sem, World.cell?_alloc_past, *]⟩ hb
      (repeat (first | with_reducible apply Below.drew | with_reducible refine Below.setCell ?_ (by first | exact Nat.le_refl _ | (simp; done) | (simp; omega) | omega) _ | with_reducible refine Below.alloc ?_ (by first | exact Nat.le_refl _ | (simp; done) | (simp; omega) | omega) _ | with_reducible exact Below.refl _ _ | with_reducible assumption))
    clear hb
    try clear hk
    have hk := hk_new
    clear hk_new
    clear h1 h2 h3 h4
    have hk' := hk
    obtain ⟨h1, h2, h3, h4⟩ := hk'
    simp only [cellsAre_cons, cellsAre_nil, and_true] at h4
    go_wp2_with fail
    go_ret
    exact ⟨rfl, h1⟩

set_option maxHeartbeats 8000000 in
theorem either_a22 (t s v a0 a1 : Int) (c : Bool) (qt qs qv : Int) (qc : Bool)(rt rs rv : Int) (rc : Bool)(ut us uv : Int) (uc : Bool) (w : World) (hm : mayS ⟨t, c, s, v⟩ = true) (HA : Hid (∀ w, Calls Try.prog 28 #[.agg #[.int .i64 t, .bool c, .int .i64 s, .int .i64 v], .agg #[.int .i64 2, .int .i64 a0]] w fun e w' => e = .returned (.agg #[.int .i64 t, .bool c, .int .i64 s, .int .i64 v]) ∧ Below w.heap.size w w')) (HB : Hid (∀ w, Calls Try.prog 28 #[.agg #[.int .i64 t, .bool c, .int .i64 s, .int .i64 v], .agg #[.int .i64 2, .int .i64 a1]] w fun e w' => e = .returned (.agg #[.int .i64 qt, .bool qc, .int .i64 qs, .int .i64 qv]) ∧ Below w.heap.size w w')) (HC : Hid (∀ w, Calls Try.prog 28 #[.agg #[.int .i64 t, .bool c, .int .i64 s, .int .i64 v], .agg #[.int .i64 2, .int .i64 a1]] w fun e w' => e = .returned (.agg #[.int .i64 rt, .bool rc, .int .i64 rs, .int .i64 rv]) ∧ Below w.heap.size w w')) (HD : Hid (∀ w, Calls Try.prog 28 #[.agg #[.int .i64 rt, .bool rc, .int .i64 rs, .int .i64 rv], .agg #[.int .i64 2, .int .i64 a0]] w fun e w' => e = .returned (.agg #[.int .i64 ut, .bool uc, .int .i64 us, .int .i64 uv]) ∧ Below w.heap.size w w'))  :
    Calls Try.prog 12 #[.agg #[.int .i64 t, .bool c, .int .i64 s, .int .i64 v], .agg #[.int .i64 2, .int .i64 a0, .int .i64 2, .int .i64 a1]] w fun e w' => e = .returned (.bool true) ∧ Below w.heap.size w w' := by
  go_enter Try.func12, Try.ntmps12
  go_wp2_with fail
  refine (law_may _ _ _ _ _).mono ?_
  rintro e w1 ⟨rfl, hb⟩
  have hk_new : Keeps (w.heap.size + 2) [(⟨w.heap.size, 0, none⟩, .int .i64 t), (⟨w.heap.size, 1, none⟩, .bool c), (⟨w.heap.size, 2, none⟩, .int .i64 s), (⟨w.heap.size, 3, none⟩, .int .i64 v), (⟨w.heap.size + 1, 0, none⟩, .int .i64 2), (⟨w.heap.size + 1, 1, none⟩, .int .i64 a0), (⟨w.heap.size + 1, 2, none⟩, .int .i64 2), (⟨w.heap.size + 1, 3, none⟩, .int .i64 a1)] w w1 := by
    refine Keeps.below ⟨?_, by first | (simp; done) | (simp; omega) | omega, by first | (simp [List.forall_mem_cons]; done) | (simp [List.forall_mem_cons]; omega), by simp [cellsAre_cons, cellsAre_nil, go_sem, World.cell?_alloc_past, *]⟩ hb
    (repeat (first | with_reducible apply Below.drew | with_reducible refine Below.setCell ?_ (by first | exact Nat.le_refl _ | (simp; done) | (simp; omega) | omega) _ | with_reducible refine Below.alloc ?_ (by first | exact Nat.le_refl _ | (simp; done) | (simp; omega) | omega) _ | with_reducible exact Below.refl _ _ | with_reducible assumption))
  clear hb
  try clear hk
  have hk := hk_new
  clear hk_new
  have hk' := hk
  obtain ⟨h1, h2, h3, h4⟩ := hk'
  simp only [cellsAre_cons, cellsAre_nil, and_true] at h4
  go_wp2_with fail
  refine (HA.out _).mono ?_
  rintro e w2 ⟨rfl, hb⟩
  have hk_new : Keeps (w.heap.size + 2) [(⟨w.heap.size, 0, none⟩, .int .i64 t), (⟨w.heap.size, 1, none⟩, .bool c), (⟨w.heap.size, 2, none⟩, .int .i64 s), (⟨w.heap.size, 3, none⟩, .int .i64 v), (⟨w.heap.size + 1, 0, none⟩, .int .i64 2), (⟨w.heap.size + 1, 1, none⟩, .int .i64 a0), (⟨w.heap.size + 1, 2, none⟩, .int .i64 2), (⟨w.heap.size + 1, 3, none⟩, .int .i64 a1)] w w2 := by
    refine Keeps.below ⟨?_, by first | (simp; done) | (simp; omega) | omega, by first | (simp [List.forall_mem_cons]; done) | (simp [List.forall_mem_cons]; omega), by simp [cellsAre_cons, cellsAre_nil, go_sem, World.cell?_alloc_past, *]⟩ hb
    (repeat (first | with_reducible apply Below.drew | with_reducible refine Below.setCell ?_ (by first | exact Nat.le_refl _ | (simp; done) | (simp; omega) | omega) _ | with_reducible refine Below.alloc ?_ (by first | exact Nat.le_refl _ | (simp; done) | (simp; omega) | omega) _ | with_reducible exact Below.refl _ _ | with_reducible assumption))
  clear hb
  try clear hk
  have hk := hk_new
  clear hk_new
  clear h1 h2 h3 h4
  have hk' := hk
  obtain ⟨h1, h2, h3, h4⟩ := hk'
  simp only [cellsAre_cons, cellsAre_nil, and_true] at h4
  have lta_0 : w.heap.size < w2.heap.size := by omega
  have nea_0 : ¬ w.heap.size = w2.heap.size := by omega
  have nfa_0 : ¬ w2.heap.size = w.heap.size := by omega
  have lta_1 : w.heap.size + 1 < w2.heap.size := by omega
  have nea_1 : ¬ w.heap.size + 1 = w2.heap.size := by omega
  have nfa_1 : ¬ w2.heap.size = w.heap.size + 1 := by omega
  have h2a := h2
  go_wp2_with fail
  refine (HB.out _).mono ?_
  rintro e w3 ⟨rfl, hb⟩
  have hk_new : Keeps (w2.heap.size + 1) [(⟨w2.heap.size, 0, none⟩, .int .i64 t), (⟨w2.heap.size, 1, none⟩, .bool c), (⟨w2.heap.size, 2, none⟩, .int .i64 s), (⟨w2.heap.size, 3, none⟩, .int .i64 v), (⟨w.heap.size, 0, none⟩, .int .i64 t), (⟨w.heap.size, 1, none⟩, .bool c), (⟨w.heap.size, 2, none⟩, .int .i64 s), (⟨w.heap.size, 3, none⟩, .int .i64 v), (⟨w.heap.size + 1, 0, none⟩, .int .i64 2), (⟨w.heap.size + 1, 1, none⟩, .int .i64 a0), (⟨w.heap.size + 1, 2, none⟩, .int .i64 2), (⟨w.heap.size + 1, 3, none⟩, .int .i64 a1)] w w3 := by
    refine Keeps.below ⟨?_, by first | (simp; done) | (simp; omega) | omega, by first | (simp [List.forall_mem_cons]; done) | (simp [List.forall_mem_cons]; omega), by simp [cellsAre_cons, cellsAre_nil, go_sem, World.cell?_alloc_past, *]⟩ hb
    (repeat (first | with_reducible apply Below.drew | with_reducible refine Below.setCell ?_ (by first | exact Nat.le_refl _ | (simp; done) | (simp; omega) | omega) _ | with_reducible refine Below.alloc ?_ (by first | exact Nat.le_refl _ | (simp; done) | (simp; omega) | omega) _ | with_reducible exact Below.refl _ _ | with_reducible assumption))
  clear hb
  try clear hk
  have hk := hk_new
  clear hk_new
  clear h1 h2 h3 h4
  have hk' := hk
  obtain ⟨h1, h2, h3, h4⟩ := hk'
  simp only [cellsAre_cons, cellsAre_nil, and_true] at h4
  clear lta_0 lta_1
  generalize w2.heap.size = b0 at *
  have ltb_0 : w.heap.size < w3.heap.size := by omega
  have neb_0 : ¬ w.heap.size = w3.heap.size := by omega
  have nfb_0 : ¬ w3.heap.size = w.heap.size := by omega
  have ltb_1 : w.heap.size + 1 < w3.heap.size := by omega
  have neb_1 : ¬ w.heap.size + 1 = w3.heap.size := by omega
  have nfb_1 : ¬ w3.heap.size = w.heap.size + 1 := by omega
  have ltb_2 : b0 < w3.heap.size := by omega
  have neb_2 : ¬ b0 = w3.heap.size := by omega
  have nfb_2 : ¬ w3.heap.size = b0 := by omega
  have h2b := h2
  go_wp2_with fail
  refine (HC.out _).mono ?_
  rintro e w4 ⟨rfl, hb⟩
  have hk_new : Keeps (w3.heap.size + 1) [(⟨w3.heap.size, 0, none⟩, .int .i64 qt), (⟨w3.heap.size, 1, none⟩, .bool qc), (⟨w3.heap.size, 2, none⟩, .int .i64 qs), (⟨w3.heap.size, 3, none⟩, .int .i64 qv), (⟨b0, 0, none⟩, .int .i64 t), (⟨b0, 1, none⟩, .bool c), (⟨b0, 2, none⟩, .int .i64 s), (⟨b0, 3, none⟩, .int .i64 v), (⟨w.heap.size, 0, none⟩, .int .i64 t), (⟨w.heap.size, 1, none⟩, .bool c), (⟨w.heap.size, 2, none⟩, .int .i64 s), (⟨w.heap.size, 3, none⟩, .int .i64 v), (⟨w.heap.size + 1, 0, none⟩, .int .i64 2), (⟨w.heap.size + 1, 1, none⟩, .int .i64 a0), (⟨w.heap.size + 1, 2, none⟩, .int .i64 2), (⟨w.heap.size + 1, 3, none⟩, .int .i64 a1)] w w4 := by
    refine Keeps.below ⟨?_, by first | (simp; done) | (simp; omega) | omega, by first | (simp [List.forall_mem_cons]; done) | (simp [List.forall_mem_cons]; omega), by simp [cellsAre_cons, cellsAre_nil, go_sem, World.cell?_alloc_past, *]⟩ hb
    (repeat (first | with_reducible apply Below.drew | with_reducible refine Below.setCell ?_ (by first | exact Nat.le_refl _ | (simp; done) | (simp; omega) | omega) _ | with_reducible refine Below.alloc ?_ (by first | exact Nat.le_refl _ | (simp; done) | (simp; omega) | omega) _ | with_reducible exact Below.refl _ _ | with_reducible assumption))
  clear hb
  try clear hk
  have hk := hk_new
  clear hk_new
  clear h1 h2 h3 h4
  have hk' := hk
  obtain ⟨h1, h2, h3, h4⟩ := hk'
  simp only [cellsAre_cons, cellsAre_nil, and_true] at h4
  clear ltb_0 ltb_1 ltb_2
  generalize w3.heap.size = b1 at *
  have ltc_0 : w.heap.size < w4.heap.size := by omega
  have nec_0 : ¬ w.heap.size = w4.heap.size := by omega
  have nfc_0 : ¬ w4.heap.size = w.heap.size := by omega
  have ltc_1 : w.heap.size + 1 < w4.heap.size := by omega
  have nec_1 : ¬ w.heap.size + 1 = w4.heap.size := by omega
  have nfc_1 : ¬ w4.heap.size = w.heap.size + 1 := by omega
  have ltc_2 : b0 < w4.heap.size := by omega
  have nec_2 : ¬ b0 = w4.heap.size := by omega
  have nfc_2 : ¬ w4.heap.size = b0 := by omega
  have ltc_3 : b1 < w4.heap.size := by omega
  have nec_3 : ¬ b1 = w4.heap.size := by omega
  have nfc_3 : ¬ w4.heap.size = b1 := by omega
  have h2c := h2
  go_wp2_with fail
  refine (HD.out _).mono ?_
  rintro e w5 ⟨rfl, hb⟩
  have hk_new : Keeps (w4.heap.size + 1) [(⟨w4.heap.size, 0, none⟩, .int .i64 rt), (⟨w4.heap.size, 1, none⟩, .bool rc), (⟨w4.heap.size, 2, none⟩, .int .i64 rs), (⟨w4.heap.size, 3, none⟩, .int .i64 rv), (⟨b1, 0, none⟩, .int .i64 qt), (⟨b1, 1, none⟩, .bool qc), (⟨b1, 2, none⟩, .int .i64 qs), (⟨b1, 3, none⟩, .int .i64 qv), (⟨b0, 0, none⟩, .int .i64 t), (⟨b0, 1, none⟩, .bool c), (⟨b0, 2, none⟩, .int .i64 s), (⟨b0, 3, none⟩, .int .i64 v), (⟨w.heap.size, 0, none⟩, .int .i64 t), (⟨w.heap.size, 1, none⟩, .bool c), (⟨w.heap.size, 2, none⟩, .int .i64 s), (⟨w.heap.size, 3, none⟩, .int .i64 v), (⟨w.heap.size + 1, 0, none⟩, .int .i64 2), (⟨w.heap.size + 1, 1, none⟩, .int .i64 a0), (⟨w.heap.size + 1, 2, none⟩, .int .i64 2), (⟨w.heap.size + 1, 3, none⟩, .int .i64 a1)] w w5 := by
    refine Keeps.below ⟨?_, by first | (simp; done) | (simp; omega) | omega, by first | (simp [List.forall_mem_cons]; done) | (simp [List.forall_mem_cons]; omega), by simp [cellsAre_cons, cellsAre_nil, go_sem, World.cell?_alloc_past, *]⟩ hb
    (repeat (first | with_reducible apply Below.drew | with_reducible refine Below.setCell ?_ (by first | exact Nat.le_refl _ | (simp; done) | (simp; omega) | omega) _ | with_reducible refine Below.alloc ?_ (by first | exact Nat.le_refl _ | (simp; done) | (simp; omega) | omega) _ | with_reducible exact Below.refl _ _ | with_reducible assumption))
  clear hb
  try clear hk
  have hk := hk_new
  clear hk_new
  clear h1 h2 h3 h4
  have hk' := hk
  obtain ⟨h1, h2, h3, h4⟩ := hk'
  simp only [cellsAre_cons, cellsAre_nil, and_true] at h4
  clear ltc_0 ltc_1 ltc_2 ltc_3
  generalize w4.heap.size = b2 at *
  have ltz_0 : w.heap.size < w5.heap.size := by omega
  have nez_0 : ¬ w.heap.size = w5.heap.size := by omega
  have nfz_0 : ¬ w5.heap.size = w.heap.size := by omega
  have ltz_1 : w.heap.size + 1 < w5.heap.size := by omega
  have nez_1 : ¬ w.heap.size + 1 = w5.heap.size := by omega
  have nfz_1 : ¬ w5.heap.size = w.heap.size + 1 := by omega
  have ltz_2 : b0 < w5.heap.size := by omega
  have nez_2 : ¬ b0 = w5.heap.size := by omega
  have nfz_2 : ¬ w5.heap.size = b0 := by omega
  have ltz_3 : b1 < w5.heap.size := by omega
  have nez_3 : ¬ b1 = w5.heap.size := by omega
  have nfz_3 : ¬ w5.heap.size = b1 := by omega
  have ltz_4 : b2 < w5.heap.size := by omega
  have nez_4 : ¬ b2 = w5.heap.size := by omega
  have nfz_4 : ¬ w5.heap.size = b2 := by omega
  have h2z := h2
  go_wp2_with fail
  refine (works_any _).mono ?_
  rintro e w9 ⟨rfl, hb⟩
  have hbl : Below w.heap.size w w9 := by
    refine Below.trans ?_ (hb.mono (by simp; omega))
    (repeat (first | with_reducible apply Below.drew | with_reducible refine Below.setCell ?_ (by first | exact Nat.le_refl _ | (simp; done) | (simp; omega) | omega) _ | with_reducible refine Below.alloc ?_ (by first | exact Nat.le_refl _ | (simp; done) | (simp; omega) | omega) _ | with_reducible exact Below.refl _ _ | with_reducible assumption))
  go_wp2_with fail
  go_ret
  exact ⟨rfl, hbl⟩

set_option maxHeartbeats 8000000 in
theorem either_b22 (t s v a0 a1 : Int) (c : Bool) (pt ps : Int) (pc : Bool)(rt rs rv : Int) (rc : Bool)(ut us uv : Int) (uc : Bool) (w : World) (hm : mayS ⟨t, c, s, v⟩ = true) (HA : Hid (∀ w, Calls Try.prog 28 #[.agg #[.int .i64 t, .bool c, .int .i64 s, .int .i64 v], .agg #[.int .i64 2, .int .i64 a0]] w fun e w' => e = .returned (.agg #[.int .i64 pt, .bool pc, .int .i64 ps, .int .i64 (v + 1)]) ∧ Below w.heap.size w w')) (HB : Hid (∀ w, Calls Try.prog 28 #[.agg #[.int .i64 pt, .bool pc, .int .i64 ps, .int .i64 (v + 1)], .agg #[.int .i64 2, .int .i64 a1]] w fun e w' => e = .returned (.agg #[.int .i64 pt, .bool pc, .int .i64 ps, .int .i64 (v + 1)]) ∧ Below w.heap.size w w')) (HC : Hid (∀ w, Calls Try.prog 28 #[.agg #[.int .i64 t, .bool c, .int .i64 s, .int .i64 v], .agg #[.int .i64 2, .int .i64 a1]] w fun e w' => e = .returned (.agg #[.int .i64 rt, .bool rc, .int .i64 rs, .int .i64 rv]) ∧ Below w.heap.size w w')) (HD : Hid (∀ w, Calls Try.prog 28 #[.agg #[.int .i64 rt, .bool rc, .int .i64 rs, .int .i64 rv], .agg #[.int .i64 2, .int .i64 a0]] w fun e w' => e = .returned (.agg #[.int .i64 ut, .bool uc, .int .i64 us, .int .i64 uv]) ∧ Below w.heap.size w w')) (hn : (v + 1 == v) = false) :
    Calls Try.prog 12 #[.agg #[.int .i64 t, .bool c, .int .i64 s, .int .i64 v], .agg #[.int .i64 2, .int .i64 a0, .int .i64 2, .int .i64 a1]] w fun e w' => e = .returned (.bool true) ∧ Below w.heap.size w w' := by
  go_enter Try.func12, Try.ntmps12
  go_wp2_with fail
  refine (law_may _ _ _ _ _).mono ?_
  rintro e w1 ⟨rfl, hb⟩
  have hk_new : Keeps (w.heap.size + 2) [(⟨w.heap.size, 0, none⟩, .int .i64 t), (⟨w.heap.size, 1, none⟩, .bool c), (⟨w.heap.size, 2, none⟩, .int .i64 s), (⟨w.heap.size, 3, none⟩, .int .i64 v), (⟨w.heap.size + 1, 0, none⟩, .int .i64 2), (⟨w.heap.size + 1, 1, none⟩, .int .i64 a0), (⟨w.heap.size + 1, 2, none⟩, .int .i64 2), (⟨w.heap.size + 1, 3, none⟩, .int .i64 a1)] w w1 := by
    refine Keeps.below ⟨?_, by first | (simp; done) | (simp; omega) | omega, by first | (simp [List.forall_mem_cons]; done) | (simp [List.forall_mem_cons]; omega), by simp [cellsAre_cons, cellsAre_nil, go_sem, World.cell?_alloc_past, *]⟩ hb
    (repeat (first | with_reducible apply Below.drew | with_reducible refine Below.setCell ?_ (by first | exact Nat.le_refl _ | (simp; done) | (simp; omega) | omega) _ | with_reducible refine Below.alloc ?_ (by first | exact Nat.le_refl _ | (simp; done) | (simp; omega) | omega) _ | with_reducible exact Below.refl _ _ | with_reducible assumption))
  clear hb
  try clear hk
  have hk := hk_new
  clear hk_new
  have hk' := hk
  obtain ⟨h1, h2, h3, h4⟩ := hk'
  simp only [cellsAre_cons, cellsAre_nil, and_true] at h4
  go_wp2_with fail
  refine (HA.out _).mono ?_
  rintro e w2 ⟨rfl, hb⟩
  have hk_new : Keeps (w.heap.size + 2) [(⟨w.heap.size, 0, none⟩, .int .i64 t), (⟨w.heap.size, 1, none⟩, .bool c), (⟨w.heap.size, 2, none⟩, .int .i64 s), (⟨w.heap.size, 3, none⟩, .int .i64 v), (⟨w.heap.size + 1, 0, none⟩, .int .i64 2), (⟨w.heap.size + 1, 1, none⟩, .int .i64 a0), (⟨w.heap.size + 1, 2, none⟩, .int .i64 2), (⟨w.heap.size + 1, 3, none⟩, .int .i64 a1)] w w2 := by
    refine Keeps.below ⟨?_, by first | (simp; done) | (simp; omega) | omega, by first | (simp [List.forall_mem_cons]; done) | (simp [List.forall_mem_cons]; omega), by simp [cellsAre_cons, cellsAre_nil, go_sem, World.cell?_alloc_past, *]⟩ hb
    (repeat (first | with_reducible apply Below.drew | with_reducible refine Below.setCell ?_ (by first | exact Nat.le_refl _ | (simp; done) | (simp; omega) | omega) _ | with_reducible refine Below.alloc ?_ (by first | exact Nat.le_refl _ | (simp; done) | (simp; omega) | omega) _ | with_reducible exact Below.refl _ _ | with_reducible assumption))
  clear hb
  try clear hk
  have hk := hk_new
  clear hk_new
  clear h1 h2 h3 h4
  have hk' := hk
  obtain ⟨h1, h2, h3, h4⟩ := hk'
  simp only [cellsAre_cons, cellsAre_nil, and_true] at h4
  have lta_0 : w.heap.size < w2.heap.size := by omega
  have nea_0 : ¬ w.heap.size = w2.heap.size := by omega
  have nfa_0 : ¬ w2.heap.size = w.heap.size := by omega
  have lta_1 : w.heap.size + 1 < w2.heap.size := by omega
  have nea_1 : ¬ w.heap.size + 1 = w2.heap.size := by omega
  have nfa_1 : ¬ w2.heap.size = w.heap.size + 1 := by omega
  have h2a := h2
  go_wp2_with fail
  refine (HB.out _).mono ?_
  rintro e w3 ⟨rfl, hb⟩
  have hk_new : Keeps (w2.heap.size + 1) [(⟨w2.heap.size, 0, none⟩, .int .i64 pt), (⟨w2.heap.size, 1, none⟩, .bool pc), (⟨w2.heap.size, 2, none⟩, .int .i64 ps), (⟨w2.heap.size, 3, none⟩, .int .i64 (v + 1)), (⟨w.heap.size, 0, none⟩, .int .i64 t), (⟨w.heap.size, 1, none⟩, .bool c), (⟨w.heap.size, 2, none⟩, .int .i64 s), (⟨w.heap.size, 3, none⟩, .int .i64 v), (⟨w.heap.size + 1, 0, none⟩, .int .i64 2), (⟨w.heap.size + 1, 1, none⟩, .int .i64 a0), (⟨w.heap.size + 1, 2, none⟩, .int .i64 2), (⟨w.heap.size + 1, 3, none⟩, .int .i64 a1)] w w3 := by
    refine Keeps.below ⟨?_, by first | (simp; done) | (simp; omega) | omega, by first | (simp [List.forall_mem_cons]; done) | (simp [List.forall_mem_cons]; omega), by simp [cellsAre_cons, cellsAre_nil, go_sem, World.cell?_alloc_past, *]⟩ hb
    (repeat (first | with_reducible apply Below.drew | with_reducible refine Below.setCell ?_ (by first | exact Nat.le_refl _ | (simp; done) | (simp; omega) | omega) _ | with_reducible refine Below.alloc ?_ (by first | exact Nat.le_refl _ | (simp; done) | (simp; omega) | omega) _ | with_reducible exact Below.refl _ _ | with_reducible assumption))
  clear hb
  try clear hk
  have hk := hk_new
  clear hk_new
  clear h1 h2 h3 h4
  have hk' := hk
  obtain ⟨h1, h2, h3, h4⟩ := hk'
  simp only [cellsAre_cons, cellsAre_nil, and_true] at h4
  clear lta_0 lta_1
  generalize w2.heap.size = b0 at *
  have ltb_0 : w.heap.size < w3.heap.size := by omega
  have neb_0 : ¬ w.heap.size = w3.heap.size := by omega
  have nfb_0 : ¬ w3.heap.size = w.heap.size := by omega
  have ltb_1 : w.heap.size + 1 < w3.heap.size := by omega
  have neb_1 : ¬ w.heap.size + 1 = w3.heap.size := by omega
  have nfb_1 : ¬ w3.heap.size = w.heap.size + 1 := by omega
  have ltb_2 : b0 < w3.heap.size := by omega
  have neb_2 : ¬ b0 = w3.heap.size := by omega
  have nfb_2 : ¬ w3.heap.size = b0 := by omega
  have h2b := h2
  go_wp2_with fail
  refine (HC.out _).mono ?_
  rintro e w4 ⟨rfl, hb⟩
  have hk_new : Keeps (w3.heap.size + 1) [(⟨w3.heap.size, 0, none⟩, .int .i64 pt), (⟨w3.heap.size, 1, none⟩, .bool pc), (⟨w3.heap.size, 2, none⟩, .int .i64 ps), (⟨w3.heap.size, 3, none⟩, .int .i64 (v + 1)), (⟨b0, 0, none⟩, .int .i64 pt), (⟨b0, 1, none⟩, .bool pc), (⟨b0, 2, none⟩, .int .i64 ps), (⟨b0, 3, none⟩, .int .i64 (v + 1)), (⟨w.heap.size, 0, none⟩, .int .i64 t), (⟨w.heap.size, 1, none⟩, .bool c), (⟨w.heap.size, 2, none⟩, .int .i64 s), (⟨w.heap.size, 3, none⟩, .int .i64 v), (⟨w.heap.size + 1, 0, none⟩, .int .i64 2), (⟨w.heap.size + 1, 1, none⟩, .int .i64 a0), (⟨w.heap.size + 1, 2, none⟩, .int .i64 2), (⟨w.heap.size + 1, 3, none⟩, .int .i64 a1)] w w4 := by
    refine Keeps.below ⟨?_, by first | (simp; done) | (simp; omega) | omega, by first | (simp [List.forall_mem_cons]; done) | (simp [List.forall_mem_cons]; omega), by simp [cellsAre_cons, cellsAre_nil, go_sem, World.cell?_alloc_past, *]⟩ hb
    (repeat (first | with_reducible apply Below.drew | with_reducible refine Below.setCell ?_ (by first | exact Nat.le_refl _ | (simp; done) | (simp; omega) | omega) _ | with_reducible refine Below.alloc ?_ (by first | exact Nat.le_refl _ | (simp; done) | (simp; omega) | omega) _ | with_reducible exact Below.refl _ _ | with_reducible assumption))
  clear hb
  try clear hk
  have hk := hk_new
  clear hk_new
  clear h1 h2 h3 h4
  have hk' := hk
  obtain ⟨h1, h2, h3, h4⟩ := hk'
  simp only [cellsAre_cons, cellsAre_nil, and_true] at h4
  clear ltb_0 ltb_1 ltb_2
  generalize w3.heap.size = b1 at *
  have ltc_0 : w.heap.size < w4.heap.size := by omega
  have nec_0 : ¬ w.heap.size = w4.heap.size := by omega
  have nfc_0 : ¬ w4.heap.size = w.heap.size := by omega
  have ltc_1 : w.heap.size + 1 < w4.heap.size := by omega
  have nec_1 : ¬ w.heap.size + 1 = w4.heap.size := by omega
  have nfc_1 : ¬ w4.heap.size = w.heap.size + 1 := by omega
  have ltc_2 : b0 < w4.heap.size := by omega
  have nec_2 : ¬ b0 = w4.heap.size := by omega
  have nfc_2 : ¬ w4.heap.size = b0 := by omega
  have ltc_3 : b1 < w4.heap.size := by omega
  have nec_3 : ¬ b1 = w4.heap.size := by omega
  have nfc_3 : ¬ w4.heap.size = b1 := by omega
  have h2c := h2
  go_wp2_with fail
  refine (HD.out _).mono ?_
  rintro e w5 ⟨rfl, hb⟩
  have hk_new : Keeps (w4.heap.size + 1) [(⟨w4.heap.size, 0, none⟩, .int .i64 rt), (⟨w4.heap.size, 1, none⟩, .bool rc), (⟨w4.heap.size, 2, none⟩, .int .i64 rs), (⟨w4.heap.size, 3, none⟩, .int .i64 rv), (⟨b1, 0, none⟩, .int .i64 pt), (⟨b1, 1, none⟩, .bool pc), (⟨b1, 2, none⟩, .int .i64 ps), (⟨b1, 3, none⟩, .int .i64 (v + 1)), (⟨b0, 0, none⟩, .int .i64 pt), (⟨b0, 1, none⟩, .bool pc), (⟨b0, 2, none⟩, .int .i64 ps), (⟨b0, 3, none⟩, .int .i64 (v + 1)), (⟨w.heap.size, 0, none⟩, .int .i64 t), (⟨w.heap.size, 1, none⟩, .bool c), (⟨w.heap.size, 2, none⟩, .int .i64 s), (⟨w.heap.size, 3, none⟩, .int .i64 v), (⟨w.heap.size + 1, 0, none⟩, .int .i64 2), (⟨w.heap.size + 1, 1, none⟩, .int .i64 a0), (⟨w.heap.size + 1, 2, none⟩, .int .i64 2), (⟨w.heap.size + 1, 3, none⟩, .int .i64 a1)] w w5 := by
    refine Keeps.below ⟨?_, by first | (simp; done) | (simp; omega) | omega, by first | (simp [List.forall_mem_cons]; done) | (simp [List.forall_mem_cons]; omega), by simp [cellsAre_cons, cellsAre_nil, go_sem, World.cell?_alloc_past, *]⟩ hb
    (repeat (first | with_reducible apply Below.drew | with_reducible refine Below.setCell ?_ (by first | exact Nat.le_refl _ | (simp; done) | (simp; omega) | omega) _ | with_reducible refine Below.alloc ?_ (by first | exact Nat.le_refl _ | (simp; done) | (simp; omega) | omega) _ | with_reducible exact Below.refl _ _ | with_reducible assumption))
  clear hb
  try clear hk
  have hk := hk_new
  clear hk_new
  clear h1 h2 h3 h4
  have hk' := hk
  obtain ⟨h1, h2, h3, h4⟩ := hk'
  simp only [cellsAre_cons, cellsAre_nil, and_true] at h4
  clear ltc_0 ltc_1 ltc_2 ltc_3
  generalize w4.heap.size = b2 at *
  have ltz_0 : w.heap.size < w5.heap.size := by omega
  have nez_0 : ¬ w.heap.size = w5.heap.size := by omega
  have nfz_0 : ¬ w5.heap.size = w.heap.size := by omega
  have ltz_1 : w.heap.size + 1 < w5.heap.size := by omega
  have nez_1 : ¬ w.heap.size + 1 = w5.heap.size := by omega
  have nfz_1 : ¬ w5.heap.size = w.heap.size + 1 := by omega
  have ltz_2 : b0 < w5.heap.size := by omega
  have nez_2 : ¬ b0 = w5.heap.size := by omega
  have nfz_2 : ¬ w5.heap.size = b0 := by omega
  have ltz_3 : b1 < w5.heap.size := by omega
  have nez_3 : ¬ b1 = w5.heap.size := by omega
  have nfz_3 : ¬ w5.heap.size = b1 := by omega
  have ltz_4 : b2 < w5.heap.size := by omega
  have nez_4 : ¬ b2 = w5.heap.size := by omega
  have nfz_4 : ¬ w5.heap.size = b2 := by omega
  have h2z := h2
  go_wp2_with fail
  refine (works_any _).mono ?_
  rintro e w9 ⟨rfl, hb⟩
  have hbl : Below w.heap.size w w9 := by
    refine Below.trans ?_ (hb.mono (by simp; omega))
    (repeat (first | with_reducible apply Below.drew | with_reducible refine Below.setCell ?_ (by first | exact Nat.le_refl _ | (simp; done) | (simp; omega) | omega) _ | with_reducible refine Below.alloc ?_ (by first | exact Nat.le_refl _ | (simp; done) | (simp; omega) | omega) _ | with_reducible exact Below.refl _ _ | with_reducible assumption))
  go_wp2_with fail
  go_ret
  exact ⟨rfl, hbl⟩

set_option maxHeartbeats 8000000 in
theorem either_c22 (t s v a0 a1 : Int) (c : Bool) (pt ps : Int) (pc : Bool) (qt qs : Int) (qc : Bool)(ut us uv : Int) (uc : Bool) (w : World) (hm : mayS ⟨t, c, s, v⟩ = true) (HA : Hid (∀ w, Calls Try.prog 28 #[.agg #[.int .i64 t, .bool c, .int .i64 s, .int .i64 v], .agg #[.int .i64 2, .int .i64 a0]] w fun e w' => e = .returned (.agg #[.int .i64 pt, .bool pc, .int .i64 ps, .int .i64 (v + 1)]) ∧ Below w.heap.size w w')) (HB : Hid (∀ w, Calls Try.prog 28 #[.agg #[.int .i64 pt, .bool pc, .int .i64 ps, .int .i64 (v + 1)], .agg #[.int .i64 2, .int .i64 a1]] w fun e w' => e = .returned (.agg #[.int .i64 qt, .bool qc, .int .i64 qs, .int .i64 (v + 1 + 1)]) ∧ Below w.heap.size w w')) (HC : Hid (∀ w, Calls Try.prog 28 #[.agg #[.int .i64 t, .bool c, .int .i64 s, .int .i64 v], .agg #[.int .i64 2, .int .i64 a1]] w fun e w' => e = .returned (.agg #[.int .i64 t, .bool c, .int .i64 s, .int .i64 v]) ∧ Below w.heap.size w w')) (HD : Hid (∀ w, Calls Try.prog 28 #[.agg #[.int .i64 t, .bool c, .int .i64 s, .int .i64 v], .agg #[.int .i64 2, .int .i64 a0]] w fun e w' => e = .returned (.agg #[.int .i64 ut, .bool uc, .int .i64 us, .int .i64 uv]) ∧ Below w.heap.size w w')) (hn : (v + 1 == v) = false) (hn2 : (v + 1 + 1 == v + 1) = false) :
    Calls Try.prog 12 #[.agg #[.int .i64 t, .bool c, .int .i64 s, .int .i64 v], .agg #[.int .i64 2, .int .i64 a0, .int .i64 2, .int .i64 a1]] w fun e w' => e = .returned (.bool true) ∧ Below w.heap.size w w' := by
  go_enter Try.func12, Try.ntmps12
  go_wp2_with fail
  refine (law_may _ _ _ _ _).mono ?_
  rintro e w1 ⟨rfl, hb⟩
  have hk_new : Keeps (w.heap.size + 2) [(⟨w.heap.size, 0, none⟩, .int .i64 t), (⟨w.heap.size, 1, none⟩, .bool c), (⟨w.heap.size, 2, none⟩, .int .i64 s), (⟨w.heap.size, 3, none⟩, .int .i64 v), (⟨w.heap.size + 1, 0, none⟩, .int .i64 2), (⟨w.heap.size + 1, 1, none⟩, .int .i64 a0), (⟨w.heap.size + 1, 2, none⟩, .int .i64 2), (⟨w.heap.size + 1, 3, none⟩, .int .i64 a1)] w w1 := by
    refine Keeps.below ⟨?_, by first | (simp; done) | (simp; omega) | omega, by first | (simp [List.forall_mem_cons]; done) | (simp [List.forall_mem_cons]; omega), by simp [cellsAre_cons, cellsAre_nil, go_sem, World.cell?_alloc_past, *]⟩ hb
    (repeat (first | with_reducible apply Below.drew | with_reducible refine Below.setCell ?_ (by first | exact Nat.le_refl _ | (simp; done) | (simp; omega) | omega) _ | with_reducible refine Below.alloc ?_ (by first | exact Nat.le_refl _ | (simp; done) | (simp; omega) | omega) _ | with_reducible exact Below.refl _ _ | with_reducible assumption))
  clear hb
  try clear hk
  have hk := hk_new
  clear hk_new
  have hk' := hk
  obtain ⟨h1, h2, h3, h4⟩ := hk'
  simp only [cellsAre_cons, cellsAre_nil, and_true] at h4
  go_wp2_with fail
  refine (HA.out _).mono ?_
  rintro e w2 ⟨rfl, hb⟩
  have hk_new : Keeps (w.heap.size + 2) [(⟨w.heap.size, 0, none⟩, .int .i64 t), (⟨w.heap.size, 1, none⟩, .bool c), (⟨w.heap.size, 2, none⟩, .int .i64 s), (⟨w.heap.size, 3, none⟩, .int .i64 v), (⟨w.heap.size + 1, 0, none⟩, .int .i64 2), (⟨w.heap.size + 1, 1, none⟩, .int .i64 a0), (⟨w.heap.size + 1, 2, none⟩, .int .i64 2), (⟨w.heap.size + 1, 3, none⟩, .int .i64 a1)] w w2 := by
    refine Keeps.below ⟨?_, by first | (simp; done) | (simp; omega) | omega, by first | (simp [List.forall_mem_cons]; done) | (simp [List.forall_mem_cons]; omega), by simp [cellsAre_cons, cellsAre_nil, go_sem, World.cell?_alloc_past, *]⟩ hb
    (repeat (first | with_reducible apply Below.drew | with_reducible refine Below.setCell ?_ (by first | exact Nat.le_refl _ | (simp; done) | (simp; omega) | omega) _ | with_reducible refine Below.alloc ?_ (by first | exact Nat.le_refl _ | (simp; done) | (simp; omega) | omega) _ | with_reducible exact Below.refl _ _ | with_reducible assumption))
  clear hb
  try clear hk
  have hk := hk_new
  clear hk_new
  clear h1 h2 h3 h4
  have hk' := hk
  obtain ⟨h1, h2, h3, h4⟩ := hk'
  simp only [cellsAre_cons, cellsAre_nil, and_true] at h4
  have lta_0 : w.heap.size < w2.heap.size := by omega
  have nea_0 : ¬ w.heap.size = w2.heap.size := by omega
  have nfa_0 : ¬ w2.heap.size = w.heap.size := by omega
  have lta_1 : w.heap.size + 1 < w2.heap.size := by omega
  have nea_1 : ¬ w.heap.size + 1 = w2.heap.size := by omega
  have nfa_1 : ¬ w2.heap.size = w.heap.size + 1 := by omega
  have h2a := h2
  go_wp2_with fail
  refine (HB.out _).mono ?_
  rintro e w3 ⟨rfl, hb⟩
  have hk_new : Keeps (w2.heap.size + 1) [(⟨w2.heap.size, 0, none⟩, .int .i64 pt), (⟨w2.heap.size, 1, none⟩, .bool pc), (⟨w2.heap.size, 2, none⟩, .int .i64 ps), (⟨w2.heap.size, 3, none⟩, .int .i64 (v + 1)), (⟨w.heap.size, 0, none⟩, .int .i64 t), (⟨w.heap.size, 1, none⟩, .bool c), (⟨w.heap.size, 2, none⟩, .int .i64 s), (⟨w.heap.size, 3, none⟩, .int .i64 v), (⟨w.heap.size + 1, 0, none⟩, .int .i64 2), (⟨w.heap.size + 1, 1, none⟩, .int .i64 a0), (⟨w.heap.size + 1, 2, none⟩, .int .i64 2), (⟨w.heap.size + 1, 3, none⟩, .int .i64 a1)] w w3 := by
    refine Keeps.below ⟨?_, by first | (simp; done) | (simp; omega) | omega, by first | (simp [List.forall_mem_cons]; done) | (simp [List.forall_mem_cons]; omega), by simp [cellsAre_cons, cellsAre_nil, go_sem, World.cell?_alloc_past, *]⟩ hb
    (repeat (first | with_reducible apply Below.drew | with_reducible refine Below.setCell ?_ (by first | exact Nat.le_refl _ | (simp; done) | (simp; omega) | omega) _ | with_reducible refine Below.alloc ?_ (by first | exact Nat.le_refl _ | (simp; done) | (simp; omega) | omega) _ | with_reducible exact Below.refl _ _ | with_reducible assumption))
  clear hb
  try clear hk
  have hk := hk_new
  clear hk_new
  clear h1 h2 h3 h4
  have hk' := hk
  obtain ⟨h1, h2, h3, h4⟩ := hk'
  simp only [cellsAre_cons, cellsAre_nil, and_true] at h4
  clear lta_0 lta_1
  generalize w2.heap.size = b0 at *
  have ltb_0 : w.heap.size < w3.heap.size := by omega
  have neb_0 : ¬ w.heap.size = w3.heap.size := by omega
  have nfb_0 : ¬ w3.heap.size = w.heap.size := by omega
  have ltb_1 : w.heap.size + 1 < w3.heap.size := by omega
  have neb_1 : ¬ w.heap.size + 1 = w3.heap.size := by omega
  have nfb_1 : ¬ w3.heap.size = w.heap.size + 1 := by omega
  have ltb_2 : b0 < w3.heap.size := by omega
  have neb_2 : ¬ b0 = w3.heap.size := by omega
  have nfb_2 : ¬ w3.heap.size = b0 := by omega
  have h2b := h2
  go_wp2_with fail
  refine (HC.out _).mono ?_
  rintro e w4 ⟨rfl, hb⟩
  have hk_new : Keeps (w3.heap.size + 1) [(⟨w3.heap.size, 0, none⟩, .int .i64 qt), (⟨w3.heap.size, 1, none⟩, .bool qc), (⟨w3.heap.size, 2, none⟩, .int .i64 qs), (⟨w3.heap.size, 3, none⟩, .int .i64 (v + 1 + 1)), (⟨b0, 0, none⟩, .int .i64 pt), (⟨b0, 1, none⟩, .bool pc), (⟨b0, 2, none⟩, .int .i64 ps), (⟨b0, 3, none⟩, .int .i64 (v + 1)), (⟨w.heap.size, 0, none⟩, .int .i64 t), (⟨w.heap.size, 1, none⟩, .bool c), (⟨w.heap.size, 2, none⟩, .int .i64 s), (⟨w.heap.size, 3, none⟩, .int .i64 v), (⟨w.heap.size + 1, 0, none⟩, .int .i64 2), (⟨w.heap.size + 1, 1, none⟩, .int .i64 a0), (⟨w.heap.size + 1, 2, none⟩, .int .i64 2), (⟨w.heap.size + 1, 3, none⟩, .int .i64 a1)] w w4 := by
    refine Keeps.below ⟨?_, by first | (simp; done) | (simp; omega) | omega, by first | (simp [List.forall_mem_cons]; done) | (simp [List.forall_mem_cons]; omega), by simp [cellsAre_cons, cellsAre_nil, go_sem, World.cell?_alloc_past, *]⟩ hb
    (repeat (first | with_reducible apply Below.drew | with_reducible refine Below.setCell ?_ (by first | exact Nat.le_refl _ | (simp; done) | (simp; omega) | omega) _ | with_reducible refine Below.alloc ?_ (by first | exact Nat.le_refl _ | (simp; done) | (simp; omega) | omega) _ | with_reducible exact Below.refl _ _ | with_reducible assumption))
  clear hb
  try clear hk
  have hk := hk_new
  clear hk_new
  clear h1 h2 h3 h4
  have hk' := hk
  obtain ⟨h1, h2, h3, h4⟩ := hk'
  simp only [cellsAre_cons, cellsAre_nil, and_true] at h4
  clear ltb_0 ltb_1 ltb_2
  generalize w3.heap.size = b1 at *
  have ltc_0 : w.heap.size < w4.heap.size := by omega
  have nec_0 : ¬ w.heap.size = w4.heap.size := by omega
  have nfc_0 : ¬ w4.heap.size = w.heap.size := by omega
  have ltc_1 : w.heap.size + 1 < w4.heap.size := by omega
  have nec_1 : ¬ w.heap.size + 1 = w4.heap.size := by omega
  have nfc_1 : ¬ w4.heap.size = w.heap.size + 1 := by omega
  have ltc_2 : b0 < w4.heap.size := by omega
  have nec_2 : ¬ b0 = w4.heap.size := by omega
  have nfc_2 : ¬ w4.heap.size = b0 := by omega
  have ltc_3 : b1 < w4.heap.size := by omega
  have nec_3 : ¬ b1 = w4.heap.size := by omega
  have nfc_3 : ¬ w4.heap.size = b1 := by omega
  have h2c := h2
  go_wp2_with fail
  refine (HD.out _).mono ?_
  rintro e w5 ⟨rfl, hb⟩
  have hk_new : Keeps (w4.heap.size + 1) [(⟨w4.heap.size, 0, none⟩, .int .i64 t), (⟨w4.heap.size, 1, none⟩, .bool c), (⟨w4.heap.size, 2, none⟩, .int .i64 s), (⟨w4.heap.size, 3, none⟩, .int .i64 v), (⟨b1, 0, none⟩, .int .i64 qt), (⟨b1, 1, none⟩, .bool qc), (⟨b1, 2, none⟩, .int .i64 qs), (⟨b1, 3, none⟩, .int .i64 (v + 1 + 1)), (⟨b0, 0, none⟩, .int .i64 pt), (⟨b0, 1, none⟩, .bool pc), (⟨b0, 2, none⟩, .int .i64 ps), (⟨b0, 3, none⟩, .int .i64 (v + 1)), (⟨w.heap.size, 0, none⟩, .int .i64 t), (⟨w.heap.size, 1, none⟩, .bool c), (⟨w.heap.size, 2, none⟩, .int .i64 s), (⟨w.heap.size, 3, none⟩, .int .i64 v), (⟨w.heap.size + 1, 0, none⟩, .int .i64 2), (⟨w.heap.size + 1, 1, none⟩, .int .i64 a0), (⟨w.heap.size + 1, 2, none⟩, .int .i64 2), (⟨w.heap.size + 1, 3, none⟩, .int .i64 a1)] w w5 := by
    refine Keeps.below ⟨?_, by first | (simp; done) | (simp; omega) | omega, by first | (simp [List.forall_mem_cons]; done) | (simp [List.forall_mem_cons]; omega), by simp [cellsAre_cons, cellsAre_nil, go_sem, World.cell?_alloc_past, *]⟩ hb
    (repeat (first | with_reducible apply Below.drew | with_reducible refine Below.setCell ?_ (by first | exact Nat.le_refl _ | (simp; done) | (simp; omega) | omega) _ | with_reducible refine Below.alloc ?_ (by first | exact Nat.le_refl _ | (simp; done) | (simp; omega) | omega) _ | with_reducible exact Below.refl _ _ | with_reducible assumption))
  clear hb
  try clear hk
  have hk := hk_new
  clear hk_new
  clear h1 h2 h3 h4
  have hk' := hk
  obtain ⟨h1, h2, h3, h4⟩ := hk'
  simp only [cellsAre_cons, cellsAre_nil, and_true] at h4
  clear ltc_0 ltc_1 ltc_2 ltc_3
  generalize w4.heap.size = b2 at *
  have ltz_0 : w.heap.size < w5.heap.size := by omega
  have nez_0 : ¬ w.heap.size = w5.heap.size := by omega
  have nfz_0 : ¬ w5.heap.size = w.heap.size := by omega
  have ltz_1 : w.heap.size + 1 < w5.heap.size := by omega
  have nez_1 : ¬ w.heap.size + 1 = w5.heap.size := by omega
  have nfz_1 : ¬ w5.heap.size = w.heap.size + 1 := by omega
  have ltz_2 : b0 < w5.heap.size := by omega
  have nez_2 : ¬ b0 = w5.heap.size := by omega
  have nfz_2 : ¬ w5.heap.size = b0 := by omega
  have ltz_3 : b1 < w5.heap.size := by omega
  have nez_3 : ¬ b1 = w5.heap.size := by omega
  have nfz_3 : ¬ w5.heap.size = b1 := by omega
  have ltz_4 : b2 < w5.heap.size := by omega
  have nez_4 : ¬ b2 = w5.heap.size := by omega
  have nfz_4 : ¬ w5.heap.size = b2 := by omega
  have h2z := h2
  go_wp2_with fail
  refine (works_any _).mono ?_
  rintro e w9 ⟨rfl, hb⟩
  have hbl : Below w.heap.size w w9 := by
    refine Below.trans ?_ (hb.mono (by simp; omega))
    (repeat (first | with_reducible apply Below.drew | with_reducible refine Below.setCell ?_ (by first | exact Nat.le_refl _ | (simp; done) | (simp; omega) | omega) _ | with_reducible refine Below.alloc ?_ (by first | exact Nat.le_refl _ | (simp; done) | (simp; omega) | omega) _ | with_reducible exact Below.refl _ _ | with_reducible assumption))
  go_wp2_with fail
  go_ret
  exact ⟨rfl, hbl⟩

set_option maxHeartbeats 8000000 in
theorem either_d22 (t s v a0 a1 : Int) (c : Bool) (pt ps : Int) (pc : Bool) (qt qs : Int) (qc : Bool) (rt rs : Int) (rc : Bool) (w : World) (hm : mayS ⟨t, c, s, v⟩ = true) (HA : Hid (∀ w, Calls Try.prog 28 #[.agg #[.int .i64 t, .bool c, .int .i64 s, .int .i64 v], .agg #[.int .i64 2, .int .i64 a0]] w fun e w' => e = .returned (.agg #[.int .i64 pt, .bool pc, .int .i64 ps, .int .i64 (v + 1)]) ∧ Below w.heap.size w w')) (HB : Hid (∀ w, Calls Try.prog 28 #[.agg #[.int .i64 pt, .bool pc, .int .i64 ps, .int .i64 (v + 1)], .agg #[.int .i64 2, .int .i64 a1]] w fun e w' => e = .returned (.agg #[.int .i64 qt, .bool qc, .int .i64 qs, .int .i64 (v + 1 + 1)]) ∧ Below w.heap.size w w')) (HC : Hid (∀ w, Calls Try.prog 28 #[.agg #[.int .i64 t, .bool c, .int .i64 s, .int .i64 v], .agg #[.int .i64 2, .int .i64 a1]] w fun e w' => e = .returned (.agg #[.int .i64 rt, .bool rc, .int .i64 rs, .int .i64 (v + 1)]) ∧ Below w.heap.size w w')) (HD : Hid (∀ w, Calls Try.prog 28 #[.agg #[.int .i64 rt, .bool rc, .int .i64 rs, .int .i64 (v + 1)], .agg #[.int .i64 2, .int .i64 a0]] w fun e w' => e = .returned (.agg #[.int .i64 rt, .bool rc, .int .i64 rs, .int .i64 (v + 1)]) ∧ Below w.heap.size w w')) (hn : (v + 1 == v) = false) (hn2 : (v + 1 + 1 == v + 1) = false) :
    Calls Try.prog 12 #[.agg #[.int .i64 t, .bool c, .int .i64 s, .int .i64 v], .agg #[.int .i64 2, .int .i64 a0, .int .i64 2, .int .i64 a1]] w fun e w' => e = .returned (.bool true) ∧ Below w.heap.size w w' := by
  go_enter Try.func12, Try.ntmps12
  go_wp2_with fail
  refine (law_may _ _ _ _ _).mono ?_
  rintro e w1 ⟨rfl, hb⟩
  have hk_new : Keeps (w.heap.size + 2) [(⟨w.heap.size, 0, none⟩, .int .i64 t), (⟨w.heap.size, 1, none⟩, .bool c), (⟨w.heap.size, 2, none⟩, .int .i64 s), (⟨w.heap.size, 3, none⟩, .int .i64 v), (⟨w.heap.size + 1, 0, none⟩, .int .i64 2), (⟨w.heap.size + 1, 1, none⟩, .int .i64 a0), (⟨w.heap.size + 1, 2, none⟩, .int .i64 2), (⟨w.heap.size + 1, 3, none⟩, .int .i64 a1)] w w1 := by
    refine Keeps.below ⟨?_, by first | (simp; done) | (simp; omega) | omega, by first | (simp [List.forall_mem_cons]; done) | (simp [List.forall_mem_cons]; omega), by simp [cellsAre_cons, cellsAre_nil, go_sem, World.cell?_alloc_past, *]⟩ hb
    (repeat (first | with_reducible apply Below.drew | with_reducible refine Below.setCell ?_ (by first | exact Nat.le_refl _ | (simp; done) | (simp; omega) | omega) _ | with_reducible refine Below.alloc ?_ (by first | exact Nat.le_refl _ | (simp; done) | (simp; omega) | omega) _ | with_reducible exact Below.refl _ _ | with_reducible assumption))
  clear hb
  try clear hk
  have hk := hk_new
  clear hk_new
  have hk' := hk
  obtain ⟨h1, h2, h3, h4⟩ := hk'
  simp only [cellsAre_cons, cellsAre_nil, and_true] at h4
  go_wp2_with fail
  refine (HA.out _).mono ?_
  rintro e w2 ⟨rfl, hb⟩
  have hk_new : Keeps (w.heap.size + 2) [(⟨w.heap.size, 0, none⟩, .int .i64 t), (⟨w.heap.size, 1, none⟩, .bool c), (⟨w.heap.size, 2, none⟩, .int .i64 s), (⟨w.heap.size, 3, none⟩, .int .i64 v), (⟨w.heap.size + 1, 0, none⟩, .int .i64 2), (⟨w.heap.size + 1, 1, none⟩, .int .i64 a0), (⟨w.heap.size + 1, 2, none⟩, .int .i64 2), (⟨w.heap.size + 1, 3, none⟩, .int .i64 a1)] w w2 := by
    refine Keeps.below ⟨?_, by first | (simp; done) | (simp; omega) | omega, by first | (simp [List.forall_mem_cons]; done) | (simp [List.forall_mem_cons]; omega), by simp [cellsAre_cons, cellsAre_nil, go_sem, World.cell?_alloc_past, *]⟩ hb
    (repeat (first | with_reducible apply Below.drew | with_reducible refine Below.setCell ?_ (by first | exact Nat.le_refl _ | (simp; done) | (simp; omega) | omega) _ | with_reducible refine Below.alloc ?_ (by first | exact Nat.le_refl _ | (simp; done) | (simp; omega) | omega) _ | with_reducible exact Below.refl _ _ | with_reducible assumption))
  clear hb
  try clear hk
  have hk := hk_new
  clear hk_new
  clear h1 h2 h3 h4
  have hk' := hk
  obtain ⟨h1, h2, h3, h4⟩ := hk'
  simp only [cellsAre_cons, cellsAre_nil, and_true] at h4
  have lta_0 : w.heap.size < w2.heap.size := by omega
  have nea_0 : ¬ w.heap.size = w2.heap.size := by omega
  have nfa_0 : ¬ w2.heap.size = w.heap.size := by omega
  have lta_1 : w.heap.size + 1 < w2.heap.size := by omega
  have nea_1 : ¬ w.heap.size + 1 = w2.heap.size := by omega
  have nfa_1 : ¬ w2.heap.size = w.heap.size + 1 := by omega
  have h2a := h2
  go_wp2_with fail
  refine (HB.out _).mono ?_
  rintro e w3 ⟨rfl, hb⟩
  have hk_new : Keeps (w2.heap.size + 1) [(⟨w2.heap.size, 0, none⟩, .int .i64 pt), (⟨w2.heap.size, 1, none⟩, .bool pc), (⟨w2.heap.size, 2, none⟩, .int .i64 ps), (⟨w2.heap.size, 3, none⟩, .int .i64 (v + 1)), (⟨w.heap.size, 0, none⟩, .int .i64 t), (⟨w.heap.size, 1, none⟩, .bool c), (⟨w.heap.size, 2, none⟩, .int .i64 s), (⟨w.heap.size, 3, none⟩, .int .i64 v), (⟨w.heap.size + 1, 0, none⟩, .int .i64 2), (⟨w.heap.size + 1, 1, none⟩, .int .i64 a0), (⟨w.heap.size + 1, 2, none⟩, .int .i64 2), (⟨w.heap.size + 1, 3, none⟩, .int .i64 a1)] w w3 := by
    refine Keeps.below ⟨?_, by first | (simp; done) | (simp; omega) | omega, by first | (simp [List.forall_mem_cons]; done) | (simp [List.forall_mem_cons]; omega), by simp [cellsAre_cons, cellsAre_nil, go_sem, World.cell?_alloc_past, *]⟩ hb
    (repeat (first | with_reducible apply Below.drew | with_reducible refine Below.setCell ?_ (by first | exact Nat.le_refl _ | (simp; done) | (simp; omega) | omega) _ | with_reducible refine Below.alloc ?_ (by first | exact Nat.le_refl _ | (simp; done) | (simp; omega) | omega) _ | with_reducible exact Below.refl _ _ | with_reducible assumption))
  clear hb
  try clear hk
  have hk := hk_new
  clear hk_new
  clear h1 h2 h3 h4
  have hk' := hk
  obtain ⟨h1, h2, h3, h4⟩ := hk'
  simp only [cellsAre_cons, cellsAre_nil, and_true] at h4
  clear lta_0 lta_1
  generalize w2.heap.size = b0 at *
  have ltb_0 : w.heap.size < w3.heap.size := by omega
  have neb_0 : ¬ w.heap.size = w3.heap.size := by omega
  have nfb_0 : ¬ w3.heap.size = w.heap.size := by omega
  have ltb_1 : w.heap.size + 1 < w3.heap.size := by omega
  have neb_1 : ¬ w.heap.size + 1 = w3.heap.size := by omega
  have nfb_1 : ¬ w3.heap.size = w.heap.size + 1 := by omega
  have ltb_2 : b0 < w3.heap.size := by omega
  have neb_2 : ¬ b0 = w3.heap.size := by omega
  have nfb_2 : ¬ w3.heap.size = b0 := by omega
  have h2b := h2
  go_wp2_with fail
  refine (HC.out _).mono ?_
  rintro e w4 ⟨rfl, hb⟩
  have hk_new : Keeps (w3.heap.size + 1) [(⟨w3.heap.size, 0, none⟩, .int .i64 qt), (⟨w3.heap.size, 1, none⟩, .bool qc), (⟨w3.heap.size, 2, none⟩, .int .i64 qs), (⟨w3.heap.size, 3, none⟩, .int .i64 (v + 1 + 1)), (⟨b0, 0, none⟩, .int .i64 pt), (⟨b0, 1, none⟩, .bool pc), (⟨b0, 2, none⟩, .int .i64 ps), (⟨b0, 3, none⟩, .int .i64 (v + 1)), (⟨w.heap.size, 0, none⟩, .int .i64 t), (⟨w.heap.size, 1, none⟩, .bool c), (⟨w.heap.size, 2, none⟩, .int .i64 s), (⟨w.heap.size, 3, none⟩, .int .i64 v), (⟨w.heap.size + 1, 0, none⟩, .int .i64 2), (⟨w.heap.size + 1, 1, none⟩, .int .i64 a0), (⟨w.heap.size + 1, 2, none⟩, .int .i64 2), (⟨w.heap.size + 1, 3, none⟩, .int .i64 a1)] w w4 := by
    refine Keeps.below ⟨?_, by first | (simp; done) | (simp; omega) | omega, by first | (simp [List.forall_mem_cons]; done) | (simp [List.forall_mem_cons]; omega), by simp [cellsAre_cons, cellsAre_nil, go_sem, World.cell?_alloc_past, *]⟩ hb
    (repeat (first | with_reducible apply Below.drew | with_reducible refine Below.setCell ?_ (by first | exact Nat.le_refl _ | (simp; done) | (simp; omega) | omega) _ | with_reducible refine Below.alloc ?_ (by first | exact Nat.le_refl _ | (simp; done) | (simp; omega) | omega) _ | with_reducible exact Below.refl _ _ | with_reducible assumption))
  clear hb
  try clear hk
  have hk := hk_new
  clear hk_new
  clear h1 h2 h3 h4
  have hk' := hk
  obtain ⟨h1, h2, h3, h4⟩ := hk'
  simp only [cellsAre_cons, cellsAre_nil, and_true] at h4
  clear ltb_0 ltb_1 ltb_2
  generalize w3.heap.size = b1 at *
  have ltc_0 : w.heap.size < w4.heap.size := by omega
  have nec_0 : ¬ w.heap.size = w4.heap.size := by omega
  have nfc_0 : ¬ w4.heap.size = w.heap.size := by omega
  have ltc_1 : w.heap.size + 1 < w4.heap.size := by omega
  have nec_1 : ¬ w.heap.size + 1 = w4.heap.size := by omega
  have nfc_1 : ¬ w4.heap.size = w.heap.size + 1 := by omega
  have ltc_2 : b0 < w4.heap.size := by omega
  have nec_2 : ¬ b0 = w4.heap.size := by omega
  have nfc_2 : ¬ w4.heap.size = b0 := by omega
  have ltc_3 : b1 < w4.heap.size := by omega
  have nec_3 : ¬ b1 = w4.heap.size := by omega
  have nfc_3 : ¬ w4.heap.size = b1 := by omega
  have h2c := h2
  go_wp2_with fail
  refine (HD.out _).mono ?_
  rintro e w5 ⟨rfl, hb⟩
  have hk_new : Keeps (w4.heap.size + 1) [(⟨w4.heap.size, 0, none⟩, .int .i64 rt), (⟨w4.heap.size, 1, none⟩, .bool rc), (⟨w4.heap.size, 2, none⟩, .int .i64 rs), (⟨w4.heap.size, 3, none⟩, .int .i64 (v + 1)), (⟨b1, 0, none⟩, .int .i64 qt), (⟨b1, 1, none⟩, .bool qc), (⟨b1, 2, none⟩, .int .i64 qs), (⟨b1, 3, none⟩, .int .i64 (v + 1 + 1)), (⟨b0, 0, none⟩, .int .i64 pt), (⟨b0, 1, none⟩, .bool pc), (⟨b0, 2, none⟩, .int .i64 ps), (⟨b0, 3, none⟩, .int .i64 (v + 1)), (⟨w.heap.size, 0, none⟩, .int .i64 t), (⟨w.heap.size, 1, none⟩, .bool c), (⟨w.heap.size, 2, none⟩, .int .i64 s), (⟨w.heap.size, 3, none⟩, .int .i64 v), (⟨w.heap.size + 1, 0, none⟩, .int .i64 2), (⟨w.heap.size + 1, 1, none⟩, .int .i64 a0), (⟨w.heap.size + 1, 2, none⟩, .int .i64 2), (⟨w.heap.size + 1, 3, none⟩, .int .i64 a1)] w w5 := by
    refine Keeps.below ⟨?_, by first | (simp; done) | (simp; omega) | omega, by first | (simp [List.forall_mem_cons]; done) | (simp [List.forall_mem_cons]; omega), by simp [cellsAre_cons, cellsAre_nil, go_sem, World.cell?_alloc_past, *]⟩ hb
    (repeat (first | with_reducible apply Below.drew | with_reducible refine Below.setCell ?_ (by first | exact Nat.le_refl _ | (simp; done) | (simp; omega) | omega) _ | with_reducible refine Below.alloc ?_ (by first | exact Nat.le_refl _ | (simp; done) | (simp; omega) | omega) _ | with_reducible exact Below.refl _ _ | with_reducible assumption))
  clear hb
  try clear hk
  have hk := hk_new
  clear hk_new
  clear h1 h2 h3 h4
  have hk' := hk
  obtain ⟨h1, h2, h3, h4⟩ := hk'
  simp only [cellsAre_cons, cellsAre_nil, and_true] at h4
  clear ltc_0 ltc_1 ltc_2 ltc_3
  generalize w4.heap.size = b2 at *
  have ltz_0 : w.heap.size < w5.heap.size := by omega
  have nez_0 : ¬ w.heap.size = w5.heap.size := by omega
  have nfz_0 : ¬ w5.heap.size = w.heap.size := by omega
  have ltz_1 : w.heap.size + 1 < w5.heap.size := by omega
  have nez_1 : ¬ w.heap.size + 1 = w5.heap.size := by omega
  have nfz_1 : ¬ w5.heap.size = w.heap.size + 1 := by omega
  have ltz_2 : b0 < w5.heap.size := by omega
  have nez_2 : ¬ b0 = w5.heap.size := by omega
  have nfz_2 : ¬ w5.heap.size = b0 := by omega
  have ltz_3 : b1 < w5.heap.size := by omega
  have nez_3 : ¬ b1 = w5.heap.size := by omega
  have nfz_3 : ¬ w5.heap.size = b1 := by omega
  have ltz_4 : b2 < w5.heap.size := by omega
  have nez_4 : ¬ b2 = w5.heap.size := by omega
  have nfz_4 : ¬ w5.heap.size = b2 := by omega
  have h2z := h2
  go_wp2_with fail
  refine (works_any _).mono ?_
  rintro e w9 ⟨rfl, hb⟩
  have hbl : Below w.heap.size w w9 := by
    refine Below.trans ?_ (hb.mono (by simp; omega))
    (repeat (first | with_reducible apply Below.drew | with_reducible refine Below.setCell ?_ (by first | exact Nat.le_refl _ | (simp; done) | (simp; omega) | omega) _ | with_reducible refine Below.alloc ?_ (by first | exact Nat.le_refl _ | (simp; done) | (simp; omega) | omega) _ | with_reducible exact Below.refl _ _ | with_reducible assumption))
  go_wp2_with fail
  go_ret
  exact ⟨rfl, hbl⟩

set_option maxHeartbeats 8000000 in
theorem either_e22 (t s v a0 a1 : Int) (c : Bool)  (w : World) (hm : mayS ⟨t, c, s, v⟩ = true) (HA : Hid (∀ w, Calls Try.prog 28 #[.agg #[.int .i64 t, .bool c, .int .i64 s, .int .i64 v], .agg #[.int .i64 2, .int .i64 a0]] w fun e w' => e = .returned (.agg #[.int .i64 t, .bool c, .int .i64 (s + a0), .int .i64 (v + 1)]) ∧ Below w.heap.size w w')) (HB : Hid (∀ w, Calls Try.prog 28 #[.agg #[.int .i64 t, .bool c, .int .i64 (s + a0), .int .i64 (v + 1)], .agg #[.int .i64 2, .int .i64 a1]] w fun e w' => e = .returned (.agg #[.int .i64 t, .bool c, .int .i64 (s + a0 + a1), .int .i64 (v + 1 + 1)]) ∧ Below w.heap.size w w')) (HC : Hid (∀ w, Calls Try.prog 28 #[.agg #[.int .i64 t, .bool c, .int .i64 s, .int .i64 v], .agg #[.int .i64 2, .int .i64 a1]] w fun e w' => e = .returned (.agg #[.int .i64 t, .bool c, .int .i64 (s + a1), .int .i64 (v + 1)]) ∧ Below w.heap.size w w')) (HD : Hid (∀ w, Calls Try.prog 28 #[.agg #[.int .i64 t, .bool c, .int .i64 (s + a1), .int .i64 (v + 1)], .agg #[.int .i64 2, .int .i64 a0]] w fun e w' => e = .returned (.agg #[.int .i64 t, .bool c, .int .i64 (s + a1 + a0), .int .i64 (v + 1 + 1)]) ∧ Below w.heap.size w w')) (hn : (v + 1 == v) = false) (hn2 : (v + 1 + 1 == v + 1) = false) (q1 : -1099511627776 ≤ s + a0) (q2 : s + a0 ≤ 1099511627776) (q3 : -1099511627776 ≤ s + a0 + a1) (q4 : s + a0 + a1 ≤ 1099511627776) (q5 : s + a0 + a1 == s + a1 + a0) :
    Calls Try.prog 12 #[.agg #[.int .i64 t, .bool c, .int .i64 s, .int .i64 v], .agg #[.int .i64 2, .int .i64 a0, .int .i64 2, .int .i64 a1]] w fun e w' => e = .returned (.bool true) ∧ Below w.heap.size w w' := by
  go_enter Try.func12, Try.ntmps12
  go_wp2_with fail
  refine (law_may _ _ _ _ _).mono ?_
  rintro e w1 ⟨rfl, hb⟩
  have hk_new : Keeps (w.heap.size + 2) [(⟨w.heap.size, 0, none⟩, .int .i64 t), (⟨w.heap.size, 1, none⟩, .bool c), (⟨w.heap.size, 2, none⟩, .int .i64 s), (⟨w.heap.size, 3, none⟩, .int .i64 v), (⟨w.heap.size + 1, 0, none⟩, .int .i64 2), (⟨w.heap.size + 1, 1, none⟩, .int .i64 a0), (⟨w.heap.size + 1, 2, none⟩, .int .i64 2), (⟨w.heap.size + 1, 3, none⟩, .int .i64 a1)] w w1 := by
    refine Keeps.below ⟨?_, by first | (simp; done) | (simp; omega) | omega, by first | (simp [List.forall_mem_cons]; done) | (simp [List.forall_mem_cons]; omega), by simp [cellsAre_cons, cellsAre_nil, go_sem, World.cell?_alloc_past, *]⟩ hb
    (repeat (first | with_reducible apply Below.drew | with_reducible refine Below.setCell ?_ (by first | exact Nat.le_refl _ | (simp; done) | (simp; omega) | omega) _ | with_reducible refine Below.alloc ?_ (by first | exact Nat.le_refl _ | (simp; done) | (simp; omega) | omega) _ | with_reducible exact Below.refl _ _ | with_reducible assumption))
  clear hb
  try clear hk
  have hk := hk_new
  clear hk_new
  have hk' := hk
  obtain ⟨h1, h2, h3, h4⟩ := hk'
  simp only [cellsAre_cons, cellsAre_nil, and_true] at h4
  go_wp2_with fail
  refine (HA.out _).mono ?_
  rintro e w2 ⟨rfl, hb⟩
  have hk_new : Keeps (w.heap.size + 2) [(⟨w.heap.size, 0, none⟩, .int .i64 t), (⟨w.heap.size, 1, none⟩, .bool c), (⟨w.heap.size, 2, none⟩, .int .i64 s), (⟨w.heap.size, 3, none⟩, .int .i64 v), (⟨w.heap.size + 1, 0, none⟩, .int .i64 2), (⟨w.heap.size + 1, 1, none⟩, .int .i64 a0), (⟨w.heap.size + 1, 2, none⟩, .int .i64 2), (⟨w.heap.size + 1, 3, none⟩, .int .i64 a1)] w w2 := by
    refine Keeps.below ⟨?_, by first | (simp; done) | (simp; omega) | omega, by first | (simp [List.forall_mem_cons]; done) | (simp [List.forall_mem_cons]; omega), by simp [cellsAre_cons, cellsAre_nil, go_sem, World.cell?_alloc_past, *]⟩ hb
    (repeat (first | with_reducible apply Below.drew | with_reducible refine Below.setCell ?_ (by first | exact Nat.le_refl _ | (simp; done) | (simp; omega) | omega) _ | with_reducible refine Below.alloc ?_ (by first | exact Nat.le_refl _ | (simp; done) | (simp; omega) | omega) _ | with_reducible exact Below.refl _ _ | with_reducible assumption))
  clear hb
  try clear hk
  have hk := hk_new
  clear hk_new
  clear h1 h2 h3 h4
  have hk' := hk
  obtain ⟨h1, h2, h3, h4⟩ := hk'
  simp only [cellsAre_cons, cellsAre_nil, and_true] at h4
  have lta_0 : w.heap.size < w2.heap.size := by omega
  have nea_0 : ¬ w.heap.size = w2.heap.size := by omega
  have nfa_0 : ¬ w2.heap.size = w.heap.size := by omega
  have lta_1 : w.heap.size + 1 < w2.heap.size := by omega
  have nea_1 : ¬ w.heap.size + 1 = w2.heap.size := by omega
  have nfa_1 : ¬ w2.heap.size = w.heap.size + 1 := by omega
  have h2a := h2
  go_wp2_with fail
  refine (HB.out _).mono ?_
  rintro e w3 ⟨rfl, hb⟩
  have hk_new : Keeps (w2.heap.size + 1) [(⟨w2.heap.size, 0, none⟩, .int .i64 t), (⟨w2.heap.size, 1, none⟩, .bool c), (⟨w2.heap.size, 2, none⟩, .int .i64 (s + a0)), (⟨w2.heap.size, 3, none⟩, .int .i64 (v + 1)), (⟨w.heap.size, 0, none⟩, .int .i64 t), (⟨w.heap.size, 1, none⟩, .bool c), (⟨w.heap.size, 2, none⟩, .int .i64 s), (⟨w.heap.size, 3, none⟩, .int .i64 v), (⟨w.heap.size + 1, 0, none⟩, .int .i64 2), (⟨w.heap.size + 1, 1, none⟩, .int .i64 a0), (⟨w.heap.size + 1, 2, none⟩, .int .i64 2), (⟨w.heap.size + 1, 3, none⟩, .int .i64 a1)] w w3 := by
    refine Keeps.below ⟨?_, by first | (simp; done) | (simp; omega) | omega, by first | (simp [List.forall_mem_cons]; done) | (simp [List.forall_mem_cons]; omega), by simp [cellsAre_cons, cellsAre_nil, go_sem, World.cell?_alloc_past, *]⟩ hb
    (repeat (first | with_reducible apply Below.drew | with_reducible refine Below.setCell ?_ (by first | exact Nat.le_refl _ | (simp; done) | (simp; omega) | omega) _ | with_reducible refine Below.alloc ?_ (by first | exact Nat.le_refl _ | (simp; done) | (simp; omega) | omega) _ | with_reducible exact Below.refl _ _ | with_reducible assumption))
  clear hb
  try clear hk
  have hk := hk_new
  clear hk_new
  clear h1 h2 h3 h4
  have hk' := hk
  obtain ⟨h1, h2, h3, h4⟩ := hk'
  simp only [cellsAre_cons, cellsAre_nil, and_true] at h4
  clear lta_0 lta_1
  generalize w2.heap.size = b0 at *
  have ltb_0 : w.heap.size < w3.heap.size := by omega
  have neb_0 : ¬ w.heap.size = w3.heap.size := by omega
  have nfb_0 : ¬ w3.heap.size = w.heap.size := by omega
  have ltb_1 : w.heap.size + 1 < w3.heap.size := by omega
  have neb_1 : ¬ w.heap.size + 1 = w3.heap.size := by omega
  have nfb_1 : ¬ w3.heap.size = w.heap.size + 1 := by omega
  have ltb_2 : b0 < w3.heap.size := by omega
  have neb_2 : ¬ b0 = w3.heap.size := by omega
  have nfb_2 : ¬ w3.heap.size = b0 := by omega
  have h2b := h2
  go_wp2_with fail
  refine (HC.out _).mono ?_
  rintro e w4 ⟨rfl, hb⟩
  have hk_new : Keeps (w3.heap.size + 1) [(⟨w3.heap.size, 0, none⟩, .int .i64 t), (⟨w3.heap.size, 1, none⟩, .bool c), (⟨w3.heap.size, 2, none⟩, .int .i64 (s + a0 + a1)), (⟨w3.heap.size, 3, none⟩, .int .i64 (v + 1 + 1)), (⟨b0, 0, none⟩, .int .i64 t), (⟨b0, 1, none⟩, .bool c), (⟨b0, 2, none⟩, .int .i64 (s + a0)), (⟨b0, 3, none⟩, .int .i64 (v + 1)), (⟨w.heap.size, 0, none⟩, .int .i64 t), (⟨w.heap.size, 1, none⟩, .bool c), (⟨w.heap.size, 2, none⟩, .int .i64 s), (⟨w.heap.size, 3, none⟩, .int .i64 v), (⟨w.heap.size + 1, 0, none⟩, .int .i64 2), (⟨w.heap.size + 1, 1, none⟩, .int .i64 a0), (⟨w.heap.size + 1, 2, none⟩, .int .i64 2), (⟨w.heap.size + 1, 3, none⟩, .int .i64 a1)] w w4 := by
    refine Keeps.below ⟨?_, by first | (simp; done) | (simp; omega) | omega, by first | (simp [List.forall_mem_cons]; done) | (simp [List.forall_mem_cons]; omega), by simp [cellsAre_cons, cellsAre_nil, go_sem, World.cell?_alloc_past, *]⟩ hb
    (repeat (first | with_reducible apply Below.drew | with_reducible refine Below.setCell ?_ (by first | exact Nat.le_refl _ | (simp; done) | (simp; omega) | omega) _ | with_reducible refine Below.alloc ?_ (by first | exact Nat.le_refl _ | (simp; done) | (simp; omega) | omega) _ | with_reducible exact Below.refl _ _ | with_reducible assumption))
  clear hb
  try clear hk
  have hk := hk_new
  clear hk_new
  clear h1 h2 h3 h4
  have hk' := hk
  obtain ⟨h1, h2, h3, h4⟩ := hk'
  simp only [cellsAre_cons, cellsAre_nil, and_true] at h4
  clear ltb_0 ltb_1 ltb_2
  generalize w3.heap.size = b1 at *
  have ltc_0 : w.heap.size < w4.heap.size := by omega
  have nec_0 : ¬ w.heap.size = w4.heap.size := by omega
  have nfc_0 : ¬ w4.heap.size = w.heap.size := by omega
  have ltc_1 : w.heap.size + 1 < w4.heap.size := by omega
  have nec_1 : ¬ w.heap.size + 1 = w4.heap.size := by omega
  have nfc_1 : ¬ w4.heap.size = w.heap.size + 1 := by omega
  have ltc_2 : b0 < w4.heap.size := by omega
  have nec_2 : ¬ b0 = w4.heap.size := by omega
  have nfc_2 : ¬ w4.heap.size = b0 := by omega
  have ltc_3 : b1 < w4.heap.size := by omega
  have nec_3 : ¬ b1 = w4.heap.size := by omega
  have nfc_3 : ¬ w4.heap.size = b1 := by omega
  have h2c := h2
  go_wp2_with fail
  refine (HD.out _).mono ?_
  rintro e w5 ⟨rfl, hb⟩
  have hk_new : Keeps (w4.heap.size + 1) [(⟨w4.heap.size, 0, none⟩, .int .i64 t), (⟨w4.heap.size, 1, none⟩, .bool c), (⟨w4.heap.size, 2, none⟩, .int .i64 (s + a1)), (⟨w4.heap.size, 3, none⟩, .int .i64 (v + 1)), (⟨b1, 0, none⟩, .int .i64 t), (⟨b1, 1, none⟩, .bool c), (⟨b1, 2, none⟩, .int .i64 (s + a0 + a1)), (⟨b1, 3, none⟩, .int .i64 (v + 1 + 1)), (⟨b0, 0, none⟩, .int .i64 t), (⟨b0, 1, none⟩, .bool c), (⟨b0, 2, none⟩, .int .i64 (s + a0)), (⟨b0, 3, none⟩, .int .i64 (v + 1)), (⟨w.heap.size, 0, none⟩, .int .i64 t), (⟨w.heap.size, 1, none⟩, .bool c), (⟨w.heap.size, 2, none⟩, .int .i64 s), (⟨w.heap.size, 3, none⟩, .int .i64 v), (⟨w.heap.size + 1, 0, none⟩, .int .i64 2), (⟨w.heap.size + 1, 1, none⟩, .int .i64 a0), (⟨w.heap.size + 1, 2, none⟩, .int .i64 2), (⟨w.heap.size + 1, 3, none⟩, .int .i64 a1)] w w5 := by
    refine Keeps.below ⟨?_, by first | (simp; done) | (simp; omega) | omega, by first | (simp [List.forall_mem_cons]; done) | (simp [List.forall_mem_cons]; omega), by simp [cellsAre_cons, cellsAre_nil, go_sem, World.cell?_alloc_past, *]⟩ hb
    (repeat (first | with_reducible apply Below.drew | with_reducible refine Below.setCell ?_ (by first | exact Nat.le_refl _ | (simp; done) | (simp; omega) | omega) _ | with_reducible refine Below.alloc ?_ (by first | exact Nat.le_refl _ | (simp; done) | (simp; omega) | omega) _ | with_reducible exact Below.refl _ _ | with_reducible assumption))
  clear hb
  try clear hk
  have hk := hk_new
  clear hk_new
  clear h1 h2 h3 h4
  have hk' := hk
  obtain ⟨h1, h2, h3, h4⟩ := hk'
  simp only [cellsAre_cons, cellsAre_nil, and_true] at h4
  clear ltc_0 ltc_1 ltc_2 ltc_3
  generalize w4.heap.size = b2 at *
  have ltz_0 : w.heap.size < w5.heap.size := by omega
  have nez_0 : ¬ w.heap.size = w5.heap.size := by omega
  have nfz_0 : ¬ w5.heap.size = w.heap.size := by omega
  have ltz_1 : w.heap.size + 1 < w5.heap.size := by omega
  have nez_1 : ¬ w.heap.size + 1 = w5.heap.size := by omega
  have nfz_1 : ¬ w5.heap.size = w.heap.size + 1 := by omega
  have ltz_2 : b0 < w5.heap.size := by omega
  have nez_2 : ¬ b0 = w5.heap.size := by omega
  have nfz_2 : ¬ w5.heap.size = b0 := by omega
  have ltz_3 : b1 < w5.heap.size := by omega
  have nez_3 : ¬ b1 = w5.heap.size := by omega
  have nfz_3 : ¬ w5.heap.size = b1 := by omega
  have ltz_4 : b2 < w5.heap.size := by omega
  have nez_4 : ¬ b2 = w5.heap.size := by omega
  have nfz_4 : ¬ w5.heap.size = b2 := by omega
  have h2z := h2
  go_wp2_with fail
  refine wp_loop_rounds 3 ?_
  rw [rounds_succ]
  go_wp2_with fail
  rw [rounds_succ]
  go_wp2_with fail
  rw [rounds_succ]
  go_wp2_with fail
  refine (works_any _).mono ?_
  rintro e w9 ⟨rfl, hb⟩
  have hbl : Below w.heap.size w w9 := by
    refine Below.trans ?_ (hb.mono (by simp; omega))
    (repeat (first | with_reducible apply Below.drew | with_reducible refine Below.setCell ?_ (by first | exact Nat.le_refl _ | (simp; done) | (simp; omega) | omega) _ | with_reducible refine Below.alloc ?_ (by first | exact Nat.le_refl _ | (simp; done) | (simp; omega) | omega) _ | with_reducible exact Below.refl _ _ | with_reducible assumption))
  go_wp2_with fail
  go_ret
  exact ⟨rfl, hbl⟩

set_option maxHeartbeats 8000000 in
theorem either_a23 (t s v a0 a1 : Int) (c : Bool) (qt qs qv : Int) (qc : Bool)(rt rs rv : Int) (rc : Bool)(ut us uv : Int) (uc : Bool) (w : World) (hm : mayS ⟨t, c, s, v⟩ = true) (HA : Hid (∀ w, Calls Try.prog 28 #[.agg #[.int .i64 t, .bool c, .int .i64 s, .int .i64 v], .agg #[.int .i64 2, .int .i64 a0]] w fun e w' => e = .returned (.agg #[.int .i64 t, .bool c, .int .i64 s, .int .i64 v]) ∧ Below w.heap.size w w')) (HB : Hid (∀ w, Calls Try.prog 28 #[.agg #[.int .i64 t, .bool c, .int .i64 s, .int .i64 v], .agg #[.int .i64 3, .int .i64 a1]] w fun e w' => e = .returned (.agg #[.int .i64 qt, .bool qc, .int .i64 qs, .int .i64 qv]) ∧ Below w.heap.size w w')) (HC : Hid (∀ w, Calls Try.prog 28 #[.agg #[.int .i64 t, .bool c, .int .i64 s, .int .i64 v], .agg #[.int .i64 3, .int .i64 a1]] w fun e w' => e = .returned (.agg #[.int .i64 rt, .bool rc, .int .i64 rs, .int .i64 rv]) ∧ Below w.heap.size w w')) (HD : Hid (∀ w, Calls Try.prog 28 #[.agg #[.int .i64 rt, .bool rc, .int .i64 rs, .int .i64 rv], .agg #[.int .i64 2, .int .i64 a0]] w fun e w' => e = .returned (.agg #[.int .i64 ut, .bool uc, .int .i64 us, .int .i64 uv]) ∧ Below w.heap.size w w'))  :
    Calls Try.prog 12 #[.agg #[.int .i64 t, .bool c, .int .i64 s, .int .i64 v], .agg #[.int .i64 2, .int .i64 a0, .int .i64 3, .int .i64 a1]] w fun e w' => e = .returned (.bool true) ∧ Below w.heap.size w w' := by
  go_enter Try.func12, Try.ntmps12
  go_wp2_with fail
  refine (law_may _ _ _ _ _).mono ?_
  rintro e w1 ⟨rfl, hb⟩
  have hk_new : Keeps (w.heap.size + 2) [(⟨w.heap.size, 0, none⟩, .int .i64 t), (⟨w.heap.size, 1, none⟩, .bool c), (⟨w.heap.size, 2, none⟩, .int .i64 s), (⟨w.heap.size, 3, none⟩, .int .i64 v), (⟨w.heap.size + 1, 0, none⟩, .int .i64 2), (⟨w.heap.size + 1, 1, none⟩, .int .i64 a0), (⟨w.heap.size + 1, 2, none⟩, .int .i64 3), (⟨w.heap.size + 1, 3, none⟩, .int .i64 a1)] w w1 := by
    refine Keeps.below ⟨?_, by first | (simp; done) | (simp; omega) | omega, by first | (simp [List.forall_mem_cons]; done) | (simp [List.forall_mem_cons]; omega), by simp [cellsAre_cons, cellsAre_nil, go_sem, World.cell?_alloc_past, *]⟩ hb
    (repeat (first | with_reducible apply Below.drew | with_reducible refine Below.setCell ?_ (by first | exact Nat.le_refl _ | (simp; done) | (simp; omega) | omega) _ | with_reducible refine Below.alloc ?_ (by first | exact Nat.le_refl _ | (simp; done) | (simp; omega) | omega) _ | with_reducible exact Below.refl _ _ | with_reducible assumption))
  clear hb
  try clear hk
  have hk := hk_new
  clear hk_new
  have hk' := hk
  obtain ⟨h1, h2, h3, h4⟩ := hk'
  simp only [cellsAre_cons, cellsAre_nil, and_true] at h4
  go_wp2_with fail
  refine (HA.out _).mono ?_
  rintro e w2 ⟨rfl, hb⟩
  have hk_new : Keeps (w.heap.size + 2) [(⟨w.heap.size, 0, none⟩, .int .i64 t), (⟨w.heap.size, 1, none⟩, .bool c), (⟨w.heap.size, 2, none⟩, .int .i64 s), (⟨w.heap.size, 3, none⟩, .int .i64 v), (⟨w.heap.size + 1, 0, none⟩, .int .i64 2), (⟨w.heap.size + 1, 1, none⟩, .int .i64 a0), (⟨w.heap.size + 1, 2, none⟩, .int .i64 3), (⟨w.heap.size + 1, 3, none⟩, .int .i64 a1)] w w2 := by
    refine Keeps.below ⟨?_, by first | (simp; done) | (simp; omega) | omega, by first | (simp [List.forall_mem_cons]; done) | (simp [List.forall_mem_cons]; omega), by simp [cellsAre_cons, cellsAre_nil, go_sem, World.cell?_alloc_past, *]⟩ hb
    (repeat (first | with_reducible apply Below.drew | with_reducible refine Below.setCell ?_ (by first | exact Nat.le_refl _ | (simp; done) | (simp; omega) | omega) _ | with_reducible refine Below.alloc ?_ (by first | exact Nat.le_refl _ | (simp; done) | (simp; omega) | omega) _ | with_reducible exact Below.refl _ _ | with_reducible assumption))
  clear hb
  try clear hk
  have hk := hk_new
  clear hk_new
  clear h1 h2 h3 h4
  have hk' := hk
  obtain ⟨h1, h2, h3, h4⟩ := hk'
  simp only [cellsAre_cons, cellsAre_nil, and_true] at h4
  have lta_0 : w.heap.size < w2.heap.size := by omega
  have nea_0 : ¬ w.heap.size = w2.heap.size := by omega
  have nfa_0 : ¬ w2.heap.size = w.heap.size := by omega
  have lta_1 : w.heap.size + 1 < w2.heap.size := by omega
  have nea_1 : ¬ w.heap.size + 1 = w2.heap.size := by omega
  have nfa_1 : ¬ w2.heap.size = w.heap.size + 1 := by omega
  have h2a := h2
  go_wp2_with fail
  refine (HB.out _).mono ?_
  rintro e w3 ⟨rfl, hb⟩
  have hk_new : Keeps (w2.heap.size + 1) [(⟨w2.heap.size, 0, none⟩, .int .i64 t), (⟨w2.heap.size, 1, none⟩, .bool c), (⟨w2.heap.size, 2, none⟩, .int .i64 s), (⟨w2.heap.size, 3, none⟩, .int .i64 v), (⟨w.heap.size, 0, none⟩, .int .i64 t), (⟨w.heap.size, 1, none⟩, .bool c), (⟨w.heap.size, 2, none⟩, .int .i64 s), (⟨w.heap.size, 3, none⟩, .int .i64 v), (⟨w.heap.size + 1, 0, none⟩, .int .i64 2), (⟨w.heap.size + 1, 1, none⟩, .int .i64 a0), (⟨w.heap.size + 1, 2, none⟩, .int .i64 3), (⟨w.heap.size + 1, 3, none⟩, .int .i64 a1)] w w3 := by
    refine Keeps.below ⟨?_, by first | (simp; done) | (simp; omega) | omega, by first | (simp [List.forall_mem_cons]; done) | (simp [List.forall_mem_cons]; omega), by simp [cellsAre_cons, cellsAre_nil, go_sem, World.cell?_alloc_past, *]⟩ hb
    (repeat (first | with_reducible apply Below.drew | with_reducible refine Below.setCell ?_ (by first | exact Nat.le_refl _ | (simp; done) | (simp; omega) | omega) _ | with_reducible refine Below.alloc ?_ (by first | exact Nat.le_refl _ | (simp; done) | (simp; omega) | omega) _ | with_reducible exact Below.refl _ _ | with_reducible assumption))
  clear hb
  try clear hk
  have hk := hk_new
  clear hk_new
  clear h1 h2 h3 h4
  have hk' := hk
  obtain ⟨h1, h2, h3, h4⟩ := hk'
  simp only [cellsAre_cons, cellsAre_nil, and_true] at h4
  clear lta_0 lta_1
  generalize w2.heap.size = b0 at *
  have ltb_0 : w.heap.size < w3.heap.size := by omega
  have neb_0 : ¬ w.heap.size = w3.heap.size := by omega
  have nfb_0 : ¬ w3.heap.size = w.heap.size := by omega
  have ltb_1 : w.heap.size + 1 < w3.heap.size := by omega
  have neb_1 : ¬ w.heap.size + 1 = w3.heap.size := by omega
  have nfb_1 : ¬ w3.heap.size = w.heap.size + 1 := by omega
  have ltb_2 : b0 < w3.heap.size := by omega
  have neb_2 : ¬ b0 = w3.heap.size := by omega
  have nfb_2 : ¬ w3.heap.size = b0 := by omega
  have h2b := h2
  go_wp2_with fail
  refine (HC.out _).mono ?_
  rintro e w4 ⟨rfl, hb⟩
  have hk_new : Keeps (w3.heap.size + 1) [(⟨w3.heap.size, 0, none⟩, .int .i64 qt), (⟨w3.heap.size, 1, none⟩, .bool qc), (⟨w3.heap.size, 2, none⟩, .int .i64 qs), (⟨w3.heap.size, 3, none⟩, .int .i64 qv), (⟨b0, 0, none⟩, .int .i64 t), (⟨b0, 1, none⟩, .bool c), (⟨b0, 2, none⟩, .int .i64 s), (⟨b0, 3, none⟩, .int .i64 v), (⟨w.heap.size, 0, none⟩, .int .i64 t), (⟨w.heap.size, 1, none⟩, .bool c), (⟨w.heap.size, 2, none⟩, .int .i64 s), (⟨w.heap.size, 3, none⟩, .int .i64 v), (⟨w.heap.size + 1, 0, none⟩, .int .i64 2), (⟨w.heap.size + 1, 1, none⟩, .int .i64 a0), (⟨w.heap.size + 1, 2, none⟩, .int .i64 3), (⟨w.heap.size + 1, 3, none⟩, .int .i64 a1)] w w4 := by
    refine Keeps.below ⟨?_, by first | (simp; done) | (simp; omega) | omega, by first | (simp [List.forall_mem_cons]; done) | (simp [List.forall_mem_cons]; omega), by simp [cellsAre_cons, cellsAre_nil, go_sem, World.cell?_alloc_past, *]⟩ hb
    (repeat (first | with_reducible apply Below.drew | with_reducible refine Below.setCell ?_ (by first | exact Nat.le_refl _ | (simp; done) | (simp; omega) | omega) _ | with_reducible refine Below.alloc ?_ (by first | exact Nat.le_refl _ | (simp; done) | (simp; omega) | omega) _ | with_reducible exact Below.refl _ _ | with_reducible assumption))
  clear hb
  try clear hk
  have hk := hk_new
  clear hk_new
  clear h1 h2 h3 h4
  have hk' := hk
  obtain ⟨h1, h2, h3, h4⟩ := hk'
  simp only [cellsAre_cons, cellsAre_nil, and_true] at h4
  clear ltb_0 ltb_1 ltb_2
  generalize w3.heap.size = b1 at *
  have ltc_0 : w.heap.size < w4.heap.size := by omega
  have nec_0 : ¬ w.heap.size = w4.heap.size := by omega
  have nfc_0 : ¬ w4.heap.size = w.heap.size := by omega
  have ltc_1 : w.heap.size + 1 < w4.heap.size := by omega
  have nec_1 : ¬ w.heap.size + 1 = w4.heap.size := by omega
  have nfc_1 : ¬ w4.heap.size = w.heap.size + 1 := by omega
  have ltc_2 : b0 < w4.heap.size := by omega
  have nec_2 : ¬ b0 = w4.heap.size := by omega
  have nfc_2 : ¬ w4.heap.size = b0 := by omega
  have ltc_3 : b1 < w4.heap.size := by omega
  have nec_3 : ¬ b1 = w4.heap.size := by omega
  have nfc_3 : ¬ w4.heap.size = b1 := by omega
  have h2c := h2
  go_wp2_with fail
  refine (HD.out _).mono ?_
  rintro e w5 ⟨rfl, hb⟩
  have hk_new : Keeps (w4.heap.size + 1) [(⟨w4.heap.size, 0, none⟩, .int .i64 rt), (⟨w4.heap.size, 1, none⟩, .bool rc), (⟨w4.heap.size, 2, none⟩, .int .i64 rs), (⟨w4.heap.size, 3, none⟩, .int .i64 rv), (⟨b1, 0, none⟩, .int .i64 qt), (⟨b1, 1, none⟩, .bool qc), (⟨b1, 2, none⟩, .int .i64 qs), (⟨b1, 3, none⟩, .int .i64 qv), (⟨b0, 0, none⟩, .int .i64 t), (⟨b0, 1, none⟩, .bool c), (⟨b0, 2, none⟩, .int .i64 s), (⟨b0, 3, none⟩, .int .i64 v), (⟨w.heap.size, 0, none⟩, .int .i64 t), (⟨w.heap.size, 1, none⟩, .bool c), (⟨w.heap.size, 2, none⟩, .int .i64 s), (⟨w.heap.size, 3, none⟩, .int .i64 v), (⟨w.heap.size + 1, 0, none⟩, .int .i64 2), (⟨w.heap.size + 1, 1, none⟩, .int .i64 a0), (⟨w.heap.size + 1, 2, none⟩, .int .i64 3), (⟨w.heap.size + 1, 3, none⟩, .int .i64 a1)] w w5 := by
    refine Keeps.below ⟨?_, by first | (simp; done) | (simp; omega) | omega, by first | (simp [List.forall_mem_cons]; done) | (simp [List.forall_mem_cons]; omega), by simp [cellsAre_cons, cellsAre_nil, go_sem, World.cell?_alloc_past, *]⟩ hb
    (repeat (first | with_reducible apply Below.drew | with_reducible refine Below.setCell ?_ (by first | exact Nat.le_refl _ | (simp; done) | (simp; omega) | omega) _ | with_reducible refine Below.alloc ?_ (by first | exact Nat.le_refl _ | (simp; done) | (simp; omega) | omega) _ | with_reducible exact Below.refl _ _ | with_reducible assumption))
  clear hb
  try clear hk
  have hk := hk_new
  clear hk_new
  clear h1 h2 h3 h4
  have hk' := hk
  obtain ⟨h1, h2, h3, h4⟩ := hk'
  simp only [cellsAre_cons, cellsAre_nil, and_true] at h4
  clear ltc_0 ltc_1 ltc_2 ltc_3
  generalize w4.heap.size = b2 at *
  have ltz_0 : w.heap.size < w5.heap.size := by omega
  have nez_0 : ¬ w.heap.size = w5.heap.size := by omega
  have nfz_0 : ¬ w5.heap.size = w.heap.size := by omega
  have ltz_1 : w.heap.size + 1 < w5.heap.size := by omega
  have nez_1 : ¬ w.heap.size + 1 = w5.heap.size := by omega
  have nfz_1 : ¬ w5.heap.size = w.heap.size + 1 := by omega
  have ltz_2 : b0 < w5.heap.size := by omega
  have nez_2 : ¬ b0 = w5.heap.size := by omega
  have nfz_2 : ¬ w5.heap.size = b0 := by omega
  have ltz_3 : b1 < w5.heap.size := by omega
  have nez_3 : ¬ b1 = w5.heap.size := by omega
  have nfz_3 : ¬ w5.heap.size = b1 := by omega
  have ltz_4 : b2 < w5.heap.size := by omega
  have nez_4 : ¬ b2 = w5.heap.size := by omega
  have nfz_4 : ¬ w5.heap.size = b2 := by omega
  have h2z := h2
  go_wp2_with fail
  refine (works_any _).mono ?_
  rintro e w9 ⟨rfl, hb⟩
  have hbl : Below w.heap.size w w9 := by
    refine Below.trans ?_ (hb.mono (by simp; omega))
    (repeat (first | with_reducible apply Below.drew | with_reducible refine Below.setCell ?_ (by first | exact Nat.le_refl _ | (simp; done) | (simp; omega) | omega) _ | with_reducible refine Below.alloc ?_ (by first | exact Nat.le_refl _ | (simp; done) | (simp; omega) | omega) _ | with_reducible exact Below.refl _ _ | with_reducible assumption))
  go_wp2_with fail
  go_ret
  exact ⟨rfl, hbl⟩

set_option maxHeartbeats 8000000 in
theorem either_b23 (t s v a0 a1 : Int) (c : Bool) (pt ps : Int) (pc : Bool)(rt rs rv : Int) (rc : Bool)(ut us uv : Int) (uc : Bool) (w : World) (hm : mayS ⟨t, c, s, v⟩ = true) (HA : Hid (∀ w, Calls Try.prog 28 #[.agg #[.int .i64 t, .bool c, .int .i64 s, .int .i64 v], .agg #[.int .i64 2, .int .i64 a0]] w fun e w' => e = .returned (.agg #[.int .i64 pt, .bool pc, .int .i64 ps, .int .i64 (v + 1)]) ∧ Below w.heap.size w w')) (HB : Hid (∀ w, Calls Try.prog 28 #[.agg #[.int .i64 pt, .bool pc, .int .i64 ps, .int .i64 (v + 1)], .agg #[.int .i64 3, .int .i64 a1]] w fun e w' => e = .returned (.agg #[.int .i64 pt, .bool pc, .int .i64 ps, .int .i64 (v + 1)]) ∧ Below w.heap.size w w')) (HC : Hid (∀ w, Calls Try.prog 28 #[.agg #[.int .i64 t, .bool c, .int .i64 s, .int .i64 v], .agg #[.int .i64 3, .int .i64 a1]] w fun e w' => e = .returned (.agg #[.int .i64 rt, .bool rc, .int .i64 rs, .int .i64 rv]) ∧ Below w.heap.size w w')) (HD : Hid (∀ w, Calls Try.prog 28 #[.agg #[.int .i64 rt, .bool rc, .int .i64 rs, .int .i64 rv], .agg #[.int .i64 2, .int .i64 a0]] w fun e w' => e = .returned (.agg #[.int .i64 ut, .bool uc, .int .i64 us, .int .i64 uv]) ∧ Below w.heap.size w w')) (hn : (v + 1 == v) = false) :
    Calls Try.prog 12 #[.agg #[.int .i64 t, .bool c, .int .i64 s, .int .i64 v], .agg #[.int .i64 2, .int .i64 a0, .int .i64 3, .int .i64 a1]] w fun e w' => e = .returned (.bool true) ∧ Below w.heap.size w w' := by
  go_enter Try.func12, Try.ntmps12
  go_wp2_with fail
  refine (law_may _ _ _ _ _).mono ?_
  rintro e w1 ⟨rfl, hb⟩
  have hk_new : Keeps (w.heap.size + 2) [(⟨w.heap.size, 0, none⟩, .int .i64 t), (⟨w.heap.size, 1, none⟩, .bool c), (⟨w.heap.size, 2, none⟩, .int .i64 s), (⟨w.heap.size, 3, none⟩, .int .i64 v), (⟨w.heap.size + 1, 0, none⟩, .int .i64 2), (⟨w.heap.size + 1, 1, none⟩, .int .i64 a0), (⟨w.heap.size + 1, 2, none⟩, .int .i64 3), (⟨w.heap.size + 1, 3, none⟩, .int .i64 a1)] w w1 := by
    refine Keeps.below ⟨?_, by first | (simp; done) | (simp; omega) | omega, by first | (simp [List.forall_mem_cons]; done) | (simp [List.forall_mem_cons]; omega), by simp [cellsAre_cons, cellsAre_nil, go_sem, World.cell?_alloc_past, *]⟩ hb
    (repeat (first | with_reducible apply Below.drew | with_reducible refine Below.setCell ?_ (by first | exact Nat.le_refl _ | (simp; done) | (simp; omega) | omega) _ | with_reducible refine Below.alloc ?_ (by first | exact Nat.le_refl _ | (simp; done) | (simp; omega) | omega) _ | with_reducible exact Below.refl _ _ | with_reducible assumption))
  clear hb
  try clear hk
  have hk := hk_new
  clear hk_new
  have hk' := hk
  obtain ⟨h1, h2, h3, h4⟩ := hk'
  simp only [cellsAre_cons, cellsAre_nil, and_true] at h4
  go_wp2_with fail
  refine (HA.out _).mono ?_
  rintro e w2 ⟨rfl, hb⟩
  have hk_new : Keeps (w.heap.size + 2) [(⟨w.heap.size, 0, none⟩, .int .i64 t), (⟨w.heap.size, 1, none⟩, .bool c), (⟨w.heap.size, 2, none⟩, .int .i64 s), (⟨w.heap.size, 3, none⟩, .int .i64 v), (⟨w.heap.size + 1, 0, none⟩, .int .i64 2), (⟨w.heap.size + 1, 1, none⟩, .int .i64 a0), (⟨w.heap.size + 1, 2, none⟩, .int .i64 3), (⟨w.heap.size + 1, 3, none⟩, .int .i64 a1)] w w2 := by
    refine Keeps.below ⟨?_, by first | (simp; done) | (simp; omega) | omega, by first | (simp [List.forall_mem_cons]; done) | (simp [List.forall_mem_cons]; omega), by simp [cellsAre_cons, cellsAre_nil, go_sem, World.cell?_alloc_past, *]⟩ hb
    (repeat (first | with_reducible apply Below.drew | with_reducible refine Below.setCell ?_ (by first | exact Nat.le_refl _ | (simp; done) | (simp; omega) | omega) _ | with_reducible refine Below.alloc ?_ (by first | exact Nat.le_refl _ | (simp; done) | (simp; omega) | omega) _ | with_reducible exact Below.refl _ _ | with_reducible assumption))
  clear hb
  try clear hk
  have hk := hk_new
  clear hk_new
  clear h1 h2 h3 h4
  have hk' := hk
  obtain ⟨h1, h2, h3, h4⟩ := hk'
  simp only [cellsAre_cons, cellsAre_nil, and_true] at h4
  have lta_0 : w.heap.size < w2.heap.size := by omega
  have nea_0 : ¬ w.heap.size = w2.heap.size := by omega
  have nfa_0 : ¬ w2.heap.size = w.heap.size := by omega
  have lta_1 : w.heap.size + 1 < w2.heap.size := by omega
  have nea_1 : ¬ w.heap.size + 1 = w2.heap.size := by omega
  have nfa_1 : ¬ w2.heap.size = w.heap.size + 1 := by omega
  have h2a := h2
  go_wp2_with fail
  refine (HB.out _).mono ?_
  rintro e w3 ⟨rfl, hb⟩
  have hk_new : Keeps (w2.heap.size + 1) [(⟨w2.heap.size, 0, none⟩, .int .i64 pt), (⟨w2.heap.size, 1, none⟩, .bool pc), (⟨w2.heap.size, 2, none⟩, .int .i64 ps), (⟨w2.heap.size, 3, none⟩, .int .i64 (v + 1)), (⟨w.heap.size, 0, none⟩, .int .i64 t), (⟨w.heap.size, 1, none⟩, .bool c), (⟨w.heap.size, 2, none⟩, .int .i64 s), (⟨w.heap.size, 3, none⟩, .int .i64 v), (⟨w.heap.size + 1, 0, none⟩, .int .i64 2), (⟨w.heap.size + 1, 1, none⟩, .int .i64 a0), (⟨w.heap.size + 1, 2, none⟩, .int .i64 3), (⟨w.heap.size + 1, 3, none⟩, .int .i64 a1)] w w3 := by
    refine Keeps.below ⟨?_, by first | (simp; done) | (simp; omega) | omega, by first | (simp [List.forall_mem_cons]; done) | (simp [List.forall_mem_cons]; omega), by simp [cellsAre_cons, cellsAre_nil, go_sem, World.cell?_alloc_past, *]⟩ hb
    (repeat (first | with_reducible apply Below.drew | with_reducible refine Below.setCell ?_ (by first | exact Nat.le_refl _ | (simp; done) | (simp; omega) | omega) _ | with_reducible refine Below.alloc ?_ (by first | exact Nat.le_refl _ | (simp; done) | (simp; omega) | omega) _ | with_reducible exact Below.refl _ _ | with_reducible assumption))
  clear hb
  try clear hk
  have hk := hk_new
  clear hk_new
  clear h1 h2 h3 h4
  have hk' := hk
  obtain ⟨h1, h2, h3, h4⟩ := hk'
  simp only [cellsAre_cons, cellsAre_nil, and_true] at h4
  clear lta_0 lta_1
  generalize w2.heap.size = b0 at *
  have ltb_0 : w.heap.size < w3.heap.size := by omega
  have neb_0 : ¬ w.heap.size = w3.heap.size := by omega
  have nfb_0 : ¬ w3.heap.size = w.heap.size := by omega
  have ltb_1 : w.heap.size + 1 < w3.heap.size := by omega
  have neb_1 : ¬ w.heap.size + 1 = w3.heap.size := by omega
  have nfb_1 : ¬ w3.heap.size = w.heap.size + 1 := by omega
  have ltb_2 : b0 < w3.heap.size := by omega
  have neb_2 : ¬ b0 = w3.heap.size := by omega
  have nfb_2 : ¬ w3.heap.size = b0 := by omega
  have h2b := h2
  go_wp2_with fail
  refine (HC.out _).mono ?_
  rintro e w4 ⟨rfl, hb⟩
  have hk_new : Keeps (w3.heap.size + 1) [(⟨w3.heap.size, 0, none⟩, .int .i64 pt), (⟨w3.heap.size, 1, none⟩, .bool pc), (⟨w3.heap.size, 2, none⟩, .int .i64 ps), (⟨w3.heap.size, 3, none⟩, .int .i64 (v + 1)), (⟨b0, 0, none⟩, .int .i64 pt), (⟨b0, 1, none⟩, .bool pc), (⟨b0, 2, none⟩, .int .i64 ps), (⟨b0, 3, none⟩, .int .i64 (v + 1)), (⟨w.heap.size, 0, none⟩, .int .i64 t), (⟨w.heap.size, 1, none⟩, .bool c), (⟨w.heap.size, 2, none⟩, .int .i64 s), (⟨w.heap.size, 3, none⟩, .int .i64 v), (⟨w.heap.size + 1, 0, none⟩, .int .i64 2), (⟨w.heap.size + 1, 1, none⟩, .int .i64 a0), (⟨w.heap.size + 1, 2, none⟩, .int .i64 3), (⟨w.heap.size + 1, 3, none⟩, .int .i64 a1)] w w4 := by
    refine Keeps.below ⟨?_, by first | (simp; done) | (simp; omega) | omega, by first | (simp [List.forall_mem_cons]; done) | (simp [List.forall_mem_cons]; omega), by simp [cellsAre_cons, cellsAre_nil, go_sem, World.cell?_alloc_past, *]⟩ hb
    (repeat (first | with_reducible apply Below.drew | with_reducible refine Below.setCell ?_ (by first | exact Nat.le_refl _ | (simp; done) | (simp; omega) | omega) _ | with_reducible refine Below.alloc ?_ (by first | exact Nat.le_refl _ | (simp; done) | (simp; omega) | omega) _ | with_reducible exact Below.refl _ _ | with_reducible assumption))
  clear hb
  try clear hk
  have hk := hk_new
  clear hk_new
  clear h1 h2 h3 h4
  have hk' := hk
  obtain ⟨h1, h2, h3, h4⟩ := hk'
  simp only [cellsAre_cons, cellsAre_nil, and_true] at h4
  clear ltb_0 ltb_1 ltb_2
  generalize w3.heap.size = b1 at *
  have ltc_0 : w.heap.size < w4.heap.size := by omega
  have nec_0 : ¬ w.heap.size = w4.heap.size := by omega
  have nfc_0 : ¬ w4.heap.size = w.heap.size := by omega
  have ltc_1 : w.heap.size + 1 < w4.heap.size := by omega
  have nec_1 : ¬ w.heap.size + 1 = w4.heap.size := by omega
  have nfc_1 : ¬ w4.heap.size = w.heap.size + 1 := by omega
  have ltc_2 : b0 < w4.heap.size := by omega
  have nec_2 : ¬ b0 = w4.heap.size := by omega
  have nfc_2 : ¬ w4.heap.size = b0 := by omega
  have ltc_3 : b1 < w4.heap.size := by omega
  have nec_3 : ¬ b1 = w4.heap.size := by omega
  have nfc_3 : ¬ w4.heap.size = b1 := by omega
  have h2c := h2
  go_wp2_with fail
  refine (HD.out _).mono ?_
  rintro e w5 ⟨rfl, hb⟩
  have hk_new : Keeps (w4.heap.size + 1) [(⟨w4.heap.size, 0, none⟩, .int .i64 rt), (⟨w4.heap.size, 1, none⟩, .bool rc), (⟨w4.heap.size, 2, none⟩, .int .i64 rs), (⟨w4.heap.size, 3, none⟩, .int .i64 rv), (⟨b1, 0, none⟩, .int .i64 pt), (⟨b1, 1, none⟩, .bool pc), (⟨b1, 2, none⟩, .int .i64 ps), (⟨b1, 3, none⟩, .int .i64 (v + 1)), (⟨b0, 0, none⟩, .int .i64 pt), (⟨b0, 1, none⟩, .bool pc), (⟨b0, 2, none⟩, .int .i64 ps), (⟨b0, 3, none⟩, .int .i64 (v + 1)), (⟨w.heap.size, 0, none⟩, .int .i64 t), (⟨w.heap.size, 1, none⟩, .bool c), (⟨w.heap.size, 2, none⟩, .int .i64 s), (⟨w.heap.size, 3, none⟩, .int .i64 v), (⟨w.heap.size + 1, 0, none⟩, .int .i64 2), (⟨w.heap.size + 1, 1, none⟩, .int .i64 a0), (⟨w.heap.size + 1, 2, none⟩, .int .i64 3), (⟨w.heap.size + 1, 3, none⟩, .int .i64 a1)] w w5 := by
    refine Keeps.below ⟨?_, by first | (simp; done) | (simp; omega) | omega, by first | (simp [List.forall_mem_cons]; done) | (simp [List.forall_mem_cons]; omega), by simp [cellsAre_cons, cellsAre_nil, go_sem, World.cell?_alloc_past, *]⟩ hb
    (repeat (first | with_reducible apply Below.drew | with_reducible refine Below.setCell ?_ (by first | exact Nat.le_refl _ | (simp; done) | (simp; omega) | omega) _ | with_reducible refine Below.alloc ?_ (by first | exact Nat.le_refl _ | (simp; done) | (simp; omega) | omega) _ | with_reducible exact Below.refl _ _ | with_reducible assumption))
  clear hb
  try clear hk
  have hk := hk_new
  clear hk_new
  clear h1 h2 h3 h4
  have hk' := hk
  obtain ⟨h1, h2, h3, h4⟩ := hk'
  simp only [cellsAre_cons, cellsAre_nil, and_true] at h4
  clear ltc_0 ltc_1 ltc_2 ltc_3
  generalize w4.heap.size = b2 at *
  have ltz_0 : w.heap.size < w5.heap.size := by omega
  have nez_0 : ¬ w.heap.size = w5.heap.size := by omega
  have nfz_0 : ¬ w5.heap.size = w.heap.size := by omega
  have ltz_1 : w.heap.size + 1 < w5.heap.size := by omega
  have nez_1 : ¬ w.heap.size + 1 = w5.heap.size := by omega
  have nfz_1 : ¬ w5.heap.size = w.heap.size + 1 := by omega
  have ltz_2 : b0 < w5.heap.size := by omega
  have nez_2 : ¬ b0 = w5.heap.size := by omega
  have nfz_2 : ¬ w5.heap.size = b0 := by omega
  have ltz_3 : b1 < w5.heap.size := by omega
  have nez_3 : ¬ b1 = w5.heap.size := by omega
  have nfz_3 : ¬ w5.heap.size = b1 := by omega
  have ltz_4 : b2 < w5.heap.size := by omega
  have nez_4 : ¬ b2 = w5.heap.size := by omega
  have nfz_4 : ¬ w5.heap.size = b2 := by omega
  have h2z := h2
  go_wp2_with fail
  refine (works_any _).mono ?_
  rintro e w9 ⟨rfl, hb⟩
  have hbl : Below w.heap.size w w9 := by
    refine Below.trans ?_ (hb.mono (by simp; omega))
    (repeat (first | with_reducible apply Below.drew | with_reducible refine Below.setCell ?_ (by first | exact Nat.le_refl _ | (simp; done) | (simp; omega) | omega) _ | with_reducible refine Below.alloc ?_ (by first | exact Nat.le_refl _ | (simp; done) | (simp; omega) | omega) _ | with_reducible exact Below.refl _ _ | with_reducible assumption))
  go_wp2_with fail
  go_ret
  exact ⟨rfl, hbl⟩

set_option maxHeartbeats 8000000 in
theorem either_c23 (t s v a0 a1 : Int) (c : Bool) (pt ps : Int) (pc : Bool) (qt qs : Int) (qc : Bool)(ut us uv : Int) (uc : Bool) (w : World) (hm : mayS ⟨t, c, s, v⟩ = true) (HA : Hid (∀ w, Calls Try.prog 28 #[.agg #[.int .i64 t, .bool c, .int .i64 s, .int .i64 v], .agg #[.int .i64 2, .int .i64 a0]] w fun e w' => e = .returned (.agg #[.int .i64 pt, .bool pc, .int .i64 ps, .int .i64 (v + 1)]) ∧ Below w.heap.size w w')) (HB : Hid (∀ w, Calls Try.prog 28 #[.agg #[.int .i64 pt, .bool pc, .int .i64 ps, .int .i64 (v + 1)], .agg #[.int .i64 3, .int .i64 a1]] w fun e w' => e = .returned (.agg #[.int .i64 qt, .bool qc, .int .i64 qs, .int .i64 (v + 1 + 1)]) ∧ Below w.heap.size w w')) (HC : Hid (∀ w, Calls Try.prog 28 #[.agg #[.int .i64 t, .bool c, .int .i64 s, .int .i64 v], .agg #[.int .i64 3, .int .i64 a1]] w fun e w' => e = .returned (.agg #[.int .i64 t, .bool c, .int .i64 s, .int .i64 v]) ∧ Below w.heap.size w w')) (HD : Hid (∀ w, Calls Try.prog 28 #[.agg #[.int .i64 t, .bool c, .int .i64 s, .int .i64 v], .agg #[.int .i64 2, .int .i64 a0]] w fun e w' => e = .returned (.agg #[.int .i64 ut, .bool uc, .int .i64 us, .int .i64 uv]) ∧ Below w.heap.size w w')) (hn : (v + 1 == v) = false) (hn2 : (v + 1 + 1 == v + 1) = false) :
    Calls Try.prog 12 #[.agg #[.int .i64 t, .bool c, .int .i64 s, .int .i64 v], .agg #[.int .i64 2, .int .i64 a0, .int .i64 3, .int .i64 a1]] w fun e w' => e = .returned (.bool true) ∧ Below w.heap.size w w' := by
  go_enter Try.func12, Try.ntmps12
  go_wp2_with fail
  refine (law_may _ _ _ _ _).mono ?_
  rintro e w1 ⟨rfl, hb⟩
  have hk_new : Keeps (w.heap.size + 2) [(⟨w.heap.size, 0, none⟩, .int .i64 t), (⟨w.heap.size, 1, none⟩, .bool c), (⟨w.heap.size, 2, none⟩, .int .i64 s), (⟨w.heap.size, 3, none⟩, .int .i64 v), (⟨w.heap.size + 1, 0, none⟩, .int .i64 2), (⟨w.heap.size + 1, 1, none⟩, .int .i64 a0), (⟨w.heap.size + 1, 2, none⟩, .int .i64 3), (⟨w.heap.size + 1, 3, none⟩, .int .i64 a1)] w w1 := by
    refine Keeps.below ⟨?_, by first | (simp; done) | (simp; omega) | omega, by first | (simp [List.forall_mem_cons]; done) | (simp [List.forall_mem_cons]; omega), by simp [cellsAre_cons, cellsAre_nil, go_sem, World.cell?_alloc_past, *]⟩ hb
    (repeat (first | with_reducible apply Below.drew | with_reducible refine Below.setCell ?_ (by first | exact Nat.le_refl _ | (simp; done) | (simp; omega) | omega) _ | with_reducible refine Below.alloc ?_ (by first | exact Nat.le_refl _ | (simp; done) | (simp; omega) | omega) _ | with_reducible exact Below.refl _ _ | with_reducible assumption))
  clear hb
  try clear hk
  have hk := hk_new
  clear hk_new
  have hk' := hk
  obtain ⟨h1, h2, h3, h4⟩ := hk'
  simp only [cellsAre_cons, cellsAre_nil, and_true] at h4
  go_wp2_with fail
  refine (HA.out _).mono ?_
  rintro e w2 ⟨rfl, hb⟩
  have hk_new : Keeps (w.heap.size + 2) [(⟨w.heap.size, 0, none⟩, .int .i64 t), (⟨w.heap.size, 1, none⟩, .bool c), (⟨w.heap.size, 2, none⟩, .int .i64 s), (⟨w.heap.size, 3, none⟩, .int .i64 v), (⟨w.heap.size + 1, 0, none⟩, .int .i64 2), (⟨w.heap.size + 1, 1, none⟩, .int .i64 a0), (⟨w.heap.size + 1, 2, none⟩, .int .i64 3), (⟨w.heap.size + 1, 3, none⟩, .int .i64 a1)] w w2 := by
    refine Keeps.below ⟨?_, by first | (simp; done) | (simp; omega) | omega, by first | (simp [List.forall_mem_cons]; done) | (simp [List.forall_mem_cons]; omega), by simp [cellsAre_cons, cellsAre_nil, go_sem, World.cell?_alloc_past, *]⟩ hb
    (repeat (first | with_reducible apply Below.drew | with_reducible refine Below.setCell ?_ (by first | exact Nat.le_refl _ | (simp; done) | (simp; omega) | omega) _ | with_reducible refine Below.alloc ?_ (by first | exact Nat.le_refl _ | (simp; done) | (simp; omega) | omega) _ | with_reducible exact Below.refl _ _ | with_reducible assumption))
  clear hb
  try clear hk
  have hk := hk_new
  clear hk_new
  clear h1 h2 h3 h4
  have hk' := hk
  obtain ⟨h1, h2, h3, h4⟩ := hk'
  simp only [cellsAre_cons, cellsAre_nil, and_true] at h4
  have lta_0 : w.heap.size < w2.heap.size := by omega
  have nea_0 : ¬ w.heap.size = w2.heap.size := by omega
  have nfa_0 : ¬ w2.heap.size = w.heap.size := by omega
  have lta_1 : w.heap.size + 1 < w2.heap.size := by omega
  have nea_1 : ¬ w.heap.size + 1 = w2.heap.size := by omega
  have nfa_1 : ¬ w2.heap.size = w.heap.size + 1 := by omega
  have h2a := h2
  go_wp2_with fail
  refine (HB.out _).mono ?_
  rintro e w3 ⟨rfl, hb⟩
  have hk_new : Keeps (w2.heap.size + 1) [(⟨w2.heap.size, 0, none⟩, .int .i64 pt), (⟨w2.heap.size, 1, none⟩, .bool pc), (⟨w2.heap.size, 2, none⟩, .int .i64 ps), (⟨w2.heap.size, 3, none⟩, .int .i64 (v + 1)), (⟨w.heap.size, 0, none⟩, .int .i64 t), (⟨w.heap.size, 1, none⟩, .bool c), (⟨w.heap.size, 2, none⟩, .int .i64 s), (⟨w.heap.size, 3, none⟩, .int .i64 v), (⟨w.heap.size + 1, 0, none⟩, .int .i64 2), (⟨w.heap.size + 1, 1, none⟩, .int .i64 a0), (⟨w.heap.size + 1, 2, none⟩, .int .i64 3), (⟨w.heap.size + 1, 3, none⟩, .int .i64 a1)] w w3 := by
    refine Keeps.below ⟨?_, by first | (simp; done) | (simp; omega) | omega, by first | (simp [List.forall_mem_cons]; done) | (simp [List.forall_mem_cons]; omega), by simp [cellsAre_cons, cellsAre_nil, go_sem, World.cell?_alloc_past, *]⟩ hb
    (repeat (first | with_reducible apply Below.drew | with_reducible refine Below.setCell ?_ (by first | exact Nat.le_refl _ | (simp; done) | (simp; omega) | omega) _ | with_reducible refine Below.alloc ?_ (by first | exact Nat.le_refl _ | (simp; done) | (simp; omega) | omega) _ | with_reducible exact Below.refl _ _ | with_reducible assumption))
  clear hb
  try clear hk
  have hk := hk_new
  clear hk_new
  clear h1 h2 h3 h4
  have hk' := hk
  obtain ⟨h1, h2, h3, h4⟩ := hk'
  simp only [cellsAre_cons, cellsAre_nil, and_true] at h4
  clear lta_0 lta_1
  generalize w2.heap.size = b0 at *
  have ltb_0 : w.heap.size < w3.heap.size := by omega
  have neb_0 : ¬ w.heap.size = w3.heap.size := by omega
  have nfb_0 : ¬ w3.heap.size = w.heap.size := by omega
  have ltb_1 : w.heap.size + 1 < w3.heap.size := by omega
  have neb_1 : ¬ w.heap.size + 1 = w3.heap.size := by omega
  have nfb_1 : ¬ w3.heap.size = w.heap.size + 1 := by omega
  have ltb_2 : b0 < w3.heap.size := by omega
  have neb_2 : ¬ b0 = w3.heap.size := by omega
  have nfb_2 : ¬ w3.heap.size = b0 := by omega
  have h2b := h2
  go_wp2_with fail
  refine (HC.out _).mono ?_
  rintro e w4 ⟨rfl, hb⟩
  have hk_new : Keeps (w3.heap.size + 1) [(⟨w3.heap.size, 0, none⟩, .int .i64 qt), (⟨w3.heap.size, 1, none⟩, .bool qc), (⟨w3.heap.size, 2, none⟩, .int .i64 qs), (⟨w3.heap.size, 3, none⟩, .int .i64 (v + 1 + 1)), (⟨b0, 0, none⟩, .int .i64 pt), (⟨b0, 1, none⟩, .bool pc), (⟨b0, 2, none⟩, .int .i64 ps), (⟨b0, 3, none⟩, .int .i64 (v + 1)), (⟨w.heap.size, 0, none⟩, .int .i64 t), (⟨w.heap.size, 1, none⟩, .bool c), (⟨w.heap.size, 2, none⟩, .int .i64 s), (⟨w.heap.size, 3, none⟩, .int .i64 v), (⟨w.heap.size + 1, 0, none⟩, .int .i64 2), (⟨w.heap.size + 1, 1, none⟩, .int .i64 a0), (⟨w.heap.size + 1, 2, none⟩, .int .i64 3), (⟨w.heap.size + 1, 3, none⟩, .int .i64 a1)] w w4 := by
    refine Keeps.below ⟨?_, by first | (simp; done) | (simp; omega) | omega, by first | (simp [List.forall_mem_cons]; done) | (simp [List.forall_mem_cons]; omega), by simp [cellsAre_cons, cellsAre_nil, go_sem, World.cell?_alloc_past, *]⟩ hb
    (repeat (first | with_reducible apply Below.drew | with_reducible refine Below.setCell ?_ (by first | exact Nat.le_refl _ | (simp; done) | (simp; omega) | omega) _ | with_reducible refine Below.alloc ?_ (by first | exact Nat.le_refl _ | (simp; done) | (simp; omega) | omega) _ | with_reducible exact Below.refl _ _ | with_reducible assumption))
  clear hb
  try clear hk
  have hk := hk_new
  clear hk_new
  clear h1 h2 h3 h4
  have hk' := hk
  obtain ⟨h1, h2, h3, h4⟩ := hk'
  simp only [cellsAre_cons, cellsAre_nil, and_true] at h4
  clear ltb_0 ltb_1 ltb_2
  generalize w3.heap.size = b1 at *
  have ltc_0 : w.heap.size < w4.heap.size := by omega
  have nec_0 : ¬ w.heap.size = w4.heap.size := by omega
  have nfc_0 : ¬ w4.heap.size = w.heap.size := by omega
  have ltc_1 : w.heap.size + 1 < w4.heap.size := by omega
  have nec_1 : ¬ w.heap.size + 1 = w4.heap.size := by omega
  have nfc_1 : ¬ w4.heap.size = w.heap.size + 1 := by omega
  have ltc_2 : b0 < w4.heap.size := by omega
  have nec_2 : ¬ b0 = w4.heap.size := by omega
  have nfc_2 : ¬ w4.heap.size = b0 := by omega
  have ltc_3 : b1 < w4.heap.size := by omega
  have nec_3 : ¬ b1 = w4.heap.size := by omega
  have nfc_3 : ¬ w4.heap.size = b1 := by omega
  have h2c := h2
  go_wp2_with fail
  refine (HD.out _).mono ?_
  rintro e w5 ⟨rfl, hb⟩
  have hk_new : Keeps (w4.heap.size + 1) [(⟨w4.heap.size, 0, none⟩, .int .i64 t), (⟨w4.heap.size, 1, none⟩, .bool c), (⟨w4.heap.size, 2, none⟩, .int .i64 s), (⟨w4.heap.size, 3, none⟩, .int .i64 v), (⟨b1, 0, none⟩, .int .i64 qt), (⟨b1, 1, none⟩, .bool qc), (⟨b1, 2, none⟩, .int .i64 qs), (⟨b1, 3, none⟩, .int .i64 (v + 1 + 1)), (⟨b0, 0, none⟩, .int .i64 pt), (⟨b0, 1, none⟩, .bool pc), (⟨b0, 2, none⟩, .int .i64 ps), (⟨b0, 3, none⟩, .int .i64 (v + 1)), (⟨w.heap.size, 0, none⟩, .int .i64 t), (⟨w.heap.size, 1, none⟩, .bool c), (⟨w.heap.size, 2, none⟩, .int .i64 s), (⟨w.heap.size, 3, none⟩, .int .i64 v), (⟨w.heap.size + 1, 0, none⟩, .int .i64 2), (⟨w.heap.size + 1, 1, none⟩, .int .i64 a0), (⟨w.heap.size + 1, 2, none⟩, .int .i64 3), (⟨w.heap.size + 1, 3, none⟩, .int .i64 a1)] w w5 := by
    refine Keeps.below ⟨?_, by first | (simp; done) | (simp; omega) | omega, by first | (simp [List.forall_mem_cons]; done) | (simp [List.forall_mem_cons]; omega), by simp [cellsAre_cons, cellsAre_nil, go_sem, World.cell?_alloc_past, *]⟩ hb
    (repeat (first | with_reducible apply Below.drew | with_reducible refine Below.setCell ?_ (by first | exact Nat.le_refl _ | (simp; done) | (simp; omega) | omega) _ | with_reducible refine Below.alloc ?_ (by first | exact Nat.le_refl _ | (simp; done) | (simp; omega) | omega) _ | with_reducible exact Below.refl _ _ | with_reducible assumption))
  clear hb
  try clear hk
  have hk := hk_new
  clear hk_new
  clear h1 h2 h3 h4
  have hk' := hk
  obtain ⟨h1, h2, h3, h4⟩ := hk'
  simp only [cellsAre_cons, cellsAre_nil, and_true] at h4
  clear ltc_0 ltc_1 ltc_2 ltc_3
  generalize w4.heap.size = b2 at *
  have ltz_0 : w.heap.size < w5.heap.size := by omega
  have nez_0 : ¬ w.heap.size = w5.heap.size := by omega
  have nfz_0 : ¬ w5.heap.size = w.heap.size := by omega
  have ltz_1 : w.heap.size + 1 < w5.heap.size := by omega
  have nez_1 : ¬ w.heap.size + 1 = w5.heap.size := by omega
  have nfz_1 : ¬ w5.heap.size = w.heap.size + 1 := by omega
  have ltz_2 : b0 < w5.heap.size := by omega
  have nez_2 : ¬ b0 = w5.heap.size := by omega
  have nfz_2 : ¬ w5.heap.size = b0 := by omega
  have ltz_3 : b1 < w5.heap.size := by omega
  have nez_3 : ¬ b1 = w5.heap.size := by omega
  have nfz_3 : ¬ w5.heap.size = b1 := by omega
  have ltz_4 : b2 < w5.heap.size := by omega
  have nez_4 : ¬ b2 = w5.heap.size := by omega
  have nfz_4 : ¬ w5.heap.size = b2 := by omega
  have h2z := h2
  go_wp2_with fail
  refine (works_any _).mono ?_
  rintro e w9 ⟨rfl, hb⟩
  have hbl : Below w.heap.size w w9 := by
    refine Below.trans ?_ (hb.mono (by simp; omega))
    (repeat (first | with_reducible apply Below.drew | with_reducible refine Below.setCell ?_ (by first | exact Nat.le_refl _ | (simp; done) | (simp; omega) | omega) _ | with_reducible refine Below.alloc ?_ (by first | exact Nat.le_refl _ | (simp; done) | (simp; omega) | omega) _ | with_reducible exact Below.refl _ _ | with_reducible assumption))
  go_wp2_with fail
  go_ret
  exact ⟨rfl, hbl⟩

set_option maxHeartbeats 8000000 in
theorem either_d23 (t s v a0 a1 : Int) (c : Bool) (pt ps : Int) (pc : Bool) (qt qs : Int) (qc : Bool) (rt rs : Int) (rc : Bool) (w : World) (hm : mayS ⟨t, c, s, v⟩ = true) (HA : Hid (∀ w, Calls Try.prog 28 #[.agg #[.int .i64 t, .bool c, .int .i64 s, .int .i64 v], .agg #[.int .i64 2, .int .i64 a0]] w fun e w' => e = .returned (.agg #[.int .i64 pt, .bool pc, .int .i64 ps, .int .i64 (v + 1)]) ∧ Below w.heap.size w w')) (HB : Hid (∀ w, Calls Try.prog 28 #[.agg #[.int .i64 pt, .bool pc, .int .i64 ps, .int .i64 (v + 1)], .agg #[.int .i64 3, .int .i64 a1]] w fun e w' => e = .returned (.agg #[.int .i64 qt, .bool qc, .int .i64 qs, .int .i64 (v + 1 + 1)]) ∧ Below w.heap.size w w')) (HC : Hid (∀ w, Calls Try.prog 28 #[.agg #[.int .i64 t, .bool c, .int .i64 s, .int .i64 v], .agg #[.int .i64 3, .int .i64 a1]] w fun e w' => e = .returned (.agg #[.int .i64 rt, .bool rc, .int .i64 rs, .int .i64 (v + 1)]) ∧ Below w.heap.size w w')) (HD : Hid (∀ w, Calls Try.prog 28 #[.agg #[.int .i64 rt, .bool rc, .int .i64 rs, .int .i64 (v + 1)], .agg #[.int .i64 2, .int .i64 a0]] w fun e w' => e = .returned (.agg #[.int .i64 rt, .bool rc, .int .i64 rs, .int .i64 (v + 1)]) ∧ Below w.heap.size w w')) (hn : (v + 1 == v) = false) (hn2 : (v + 1 + 1 == v + 1) = false) :
    Calls Try.prog 12 #[.agg #[.int .i64 t, .bool c, .int .i64 s, .int .i64 v], .agg #[.int .i64 2, .int .i64 a0, .int .i64 3, .int .i64 a1]] w fun e w' => e = .returned (.bool true) ∧ Below w.heap.size w w' := by
  go_enter Try.func12, Try.ntmps12
  go_wp2_with fail
  refine (law_may _ _ _ _ _).mono ?_
  rintro e w1 ⟨rfl, hb⟩
  have hk_new : Keeps (w.heap.size + 2) [(⟨w.heap.size, 0, none⟩, .int .i64 t), (⟨w.heap.size, 1, none⟩, .bool c), (⟨w.heap.size, 2, none⟩, .int .i64 s), (⟨w.heap.size, 3, none⟩, .int .i64 v), (⟨w.heap.size + 1, 0, none⟩, .int .i64 2), (⟨w.heap.size + 1, 1, none⟩, .int .i64 a0), (⟨w.heap.size + 1, 2, none⟩, .int .i64 3), (⟨w.heap.size + 1, 3, none⟩, .int .i64 a1)] w w1 := by
    refine Keeps.below ⟨?_, by first | (simp; done) | (simp; omega) | omega, by first | (simp [List.forall_mem_cons]; done) | (simp [List.forall_mem_cons]; omega), by simp [cellsAre_cons, cellsAre_nil, go_sem, World.cell?_alloc_past, *]⟩ hb
    (repeat (first | with_reducible apply Below.drew | with_reducible refine Below.setCell ?_ (by first | exact Nat.le_refl _ | (simp; done) | (simp; omega) | omega) _ | with_reducible refine Below.alloc ?_ (by first | exact Nat.le_refl _ | (simp; done) | (simp; omega) | omega) _ | with_reducible exact Below.refl _ _ | with_reducible assumption))
  clear hb
  try clear hk
  have hk := hk_new
  clear hk_new
  have hk' := hk
  obtain ⟨h1, h2, h3, h4⟩ := hk'
  simp only [cellsAre_cons, cellsAre_nil, and_true] at h4
  go_wp2_with fail
  refine (HA.out _).mono ?_
  rintro e w2 ⟨rfl, hb⟩
  have hk_new : Keeps (w.heap.size + 2) [(⟨w.heap.size, 0, none⟩, .int .i64 t), (⟨w.heap.size, 1, none⟩, .bool c), (⟨w.heap.size, 2, none⟩, .int .i64 s), (⟨w.heap.size, 3, none⟩, .int .i64 v), (⟨w.heap.size + 1, 0, none⟩, .int .i64 2), (⟨w.heap.size + 1, 1, none⟩, .int .i64 a0), (⟨w.heap.size + 1, 2, none⟩, .int .i64 3), (⟨w.heap.size + 1, 3, none⟩, .int .i64 a1)] w w2 := by
    refine Keeps.below ⟨?_, by first | (simp; done) | (simp; omega) | omega, by first | (simp [List.forall_mem_cons]; done) | (simp [List.forall_mem_cons]; omega), by simp [cellsAre_cons, cellsAre_nil, go_sem, World.cell?_alloc_past, *]⟩ hb
    (repeat (first | with_reducible apply Below.drew | with_reducible refine Below.setCell ?_ (by first | exact Nat.le_refl _ | (simp; done) | (simp; omega) | omega) _ | with_reducible refine Below.alloc ?_ (by first | exact Nat.le_refl _ | (simp; done) | (simp; omega) | omega) _ | with_reducible exact Below.refl _ _ | with_reducible assumption))
  clear hb
  try clear hk
  have hk := hk_new
  clear hk_new
  clear h1 h2 h3 h4
  have hk' := hk
  obtain ⟨h1, h2, h3, h4⟩ := hk'
  simp only [cellsAre_cons, cellsAre_nil, and_true] at h4
  have lta_0 : w.heap.size < w2.heap.size := by omega
  have nea_0 : ¬ w.heap.size = w2.heap.size := by omega
  have nfa_0 : ¬ w2.heap.size = w.heap.size := by omega
  have lta_1 : w.heap.size + 1 < w2.heap.size := by omega
  have nea_1 : ¬ w.heap.size + 1 = w2.heap.size := by omega
  have nfa_1 : ¬ w2.heap.size = w.heap.size + 1 := by omega
  have h2a := h2
  go_wp2_with fail
  refine (HB.out _).mono ?_
  rintro e w3 ⟨rfl, hb⟩
  have hk_new : Keeps (w2.heap.size + 1) [(⟨w2.heap.size, 0, none⟩, .int .i64 pt), (⟨w2.heap.size, 1, none⟩, .bool pc), (⟨w2.heap.size, 2, none⟩, .int .i64 ps), (⟨w2.heap.size, 3, none⟩, .int .i64 (v + 1)), (⟨w.heap.size, 0, none⟩, .int .i64 t), (⟨w.heap.size, 1, none⟩, .bool c), (⟨w.heap.size, 2, none⟩, .int .i64 s), (⟨w.heap.size, 3, none⟩, .int .i64 v), (⟨w.heap.size + 1, 0, none⟩, .int .i64 2), (⟨w.heap.size + 1, 1, none⟩, .int .i64 a0), (⟨w.heap.size + 1, 2, none⟩, .int .i64 3), (⟨w.heap.size + 1, 3, none⟩, .int .i64 a1)] w w3 := by
    refine Keeps.below ⟨?_, by first | (simp; done) | (simp; omega) | omega, by first | (simp [List.forall_mem_cons]; done) | (simp [List.forall_mem_cons]; omega), by simp [cellsAre_cons, cellsAre_nil, go_sem, World.cell?_alloc_past, *]⟩ hb
    (repeat (first | with_reducible apply Below.drew | with_reducible refine Below.setCell ?_ (by first | exact Nat.le_refl _ | (simp; done) | (simp; omega) | omega) _ | with_reducible refine Below.alloc ?_ (by first | exact Nat.le_refl _ | (simp; done) | (simp; omega) | omega) _ | with_reducible exact Below.refl _ _ | with_reducible assumption))
  clear hb
  try clear hk
  have hk := hk_new
  clear hk_new
  clear h1 h2 h3 h4
  have hk' := hk
  obtain ⟨h1, h2, h3, h4⟩ := hk'
  simp only [cellsAre_cons, cellsAre_nil, and_true] at h4
  clear lta_0 lta_1
  generalize w2.heap.size = b0 at *
  have ltb_0 : w.heap.size < w3.heap.size := by omega
  have neb_0 : ¬ w.heap.size = w3.heap.size := by omega
  have nfb_0 : ¬ w3.heap.size = w.heap.size := by omega
  have ltb_1 : w.heap.size + 1 < w3.heap.size := by omega
  have neb_1 : ¬ w.heap.size + 1 = w3.heap.size := by omega
  have nfb_1 : ¬ w3.heap.size = w.heap.size + 1 := by omega
  have ltb_2 : b0 < w3.heap.size := by omega
  have neb_2 : ¬ b0 = w3.heap.size := by omega
  have nfb_2 : ¬ w3.heap.size = b0 := by omega
  have h2b := h2
  go_wp2_with fail
  refine (HC.out _).mono ?_
  rintro e w4 ⟨rfl, hb⟩
  have hk_new : Keeps (w3.heap.size + 1) [(⟨w3.heap.size, 0, none⟩, .int .i64 qt), (⟨w3.heap.size, 1, none⟩, .bool qc), (⟨w3.heap.size, 2, none⟩, .int .i64 qs), (⟨w3.heap.size, 3, none⟩, .int .i64 (v + 1 + 1)), (⟨b0, 0, none⟩, .int .i64 pt), (⟨b0, 1, none⟩, .bool pc), (⟨b0, 2, none⟩, .int .i64 ps), (⟨b0, 3, none⟩, .int .i64 (v + 1)), (⟨w.heap.size, 0, none⟩, .int .i64 t), (⟨w.heap.size, 1, none⟩, .bool c), (⟨w.heap.size, 2, none⟩, .int .i64 s), (⟨w.heap.size, 3, none⟩, .int .i64 v), (⟨w.heap.size + 1, 0, none⟩, .int .i64 2), (⟨w.heap.size + 1, 1, none⟩, .int .i64 a0), (⟨w.heap.size + 1, 2, none⟩, .int .i64 3), (⟨w.heap.size + 1, 3, none⟩, .int .i64 a1)] w w4 := by
    refine Keeps.below ⟨?_, by first | (simp; done) | (simp; omega) | omega, by first | (simp [List.forall_mem_cons]; done) | (simp [List.forall_mem_cons]; omega), by simp [cellsAre_cons, cellsAre_nil, go_sem, World.cell?_alloc_past, *]⟩ hb
    (repeat (first | with_reducible apply Below.drew | with_reducible refine Below.setCell ?_ (by first | exact Nat.le_refl _ | (simp; done) | (simp; omega) | omega) _ | with_reducible refine Below.alloc ?_ (by first | exact Nat.le_refl _ | (simp; done) | (simp; omega) | omega) _ | with_reducible exact Below.refl _ _ | with_reducible assumption))
  clear hb
  try clear hk
  have hk := hk_new
  clear hk_new
  clear h1 h2 h3 h4
  have hk' := hk
  obtain ⟨h1, h2, h3, h4⟩ := hk'
  simp only [cellsAre_cons, cellsAre_nil, and_true] at h4
  clear ltb_0 ltb_1 ltb_2
  generalize w3.heap.size = b1 at *
  have ltc_0 : w.heap.size < w4.heap.size := by omega
  have nec_0 : ¬ w.heap.size = w4.heap.size := by omega
  have nfc_0 : ¬ w4.heap.size = w.heap.size := by omega
  have ltc_1 : w.heap.size + 1 < w4.heap.size := by omega
  have nec_1 : ¬ w.heap.size + 1 = w4.heap.size := by omega
  have nfc_1 : ¬ w4.heap.size = w.heap.size + 1 := by omega
  have ltc_2 : b0 < w4.heap.size := by omega
  have nec_2 : ¬ b0 = w4.heap.size := by omega
  have nfc_2 : ¬ w4.heap.size = b0 := by omega
  have ltc_3 : b1 < w4.heap.size := by omega
  have nec_3 : ¬ b1 = w4.heap.size := by omega
  have nfc_3 : ¬ w4.heap.size = b1 := by omega
  have h2c := h2
  go_wp2_with fail
  refine (HD.out _).mono ?_
  rintro e w5 ⟨rfl, hb⟩
  have hk_new : Keeps (w4.heap.size + 1) [(⟨w4.heap.size, 0, none⟩, .int .i64 rt), (⟨w4.heap.size, 1, none⟩, .bool rc), (⟨w4.heap.size, 2, none⟩, .int .i64 rs), (⟨w4.heap.size, 3, none⟩, .int .i64 (v + 1)), (⟨b1, 0, none⟩, .int .i64 qt), (⟨b1, 1, none⟩, .bool qc), (⟨b1, 2, none⟩, .int .i64 qs), (⟨b1, 3, none⟩, .int .i64 (v + 1 + 1)), (⟨b0, 0, none⟩, .int .i64 pt), (⟨b0, 1, none⟩, .bool pc), (⟨b0, 2, none⟩, .int .i64 ps), (⟨b0, 3, none⟩, .int .i64 (v + 1)), (⟨w.heap.size, 0, none⟩, .int .i64 t), (⟨w.heap.size, 1, none⟩, .bool c), (⟨w.heap.size, 2, none⟩, .int .i64 s), (⟨w.heap.size, 3, none⟩, .int .i64 v), (⟨w.heap.size + 1, 0, none⟩, .int .i64 2), (⟨w.heap.size + 1, 1, none⟩, .int .i64 a0), (⟨w.heap.size + 1, 2, none⟩, .int .i64 3), (⟨w.heap.size + 1, 3, none⟩, .int .i64 a1)] w w5 := by
    refine Keeps.below ⟨?_, by first | (simp; done) | (simp; omega) | omega, by first | (simp [List.forall_mem_cons]; done) | (simp [List.forall_mem_cons]; omega), by simp [cellsAre_cons, cellsAre_nil, go_sem, World.cell?_alloc_past, *]⟩ hb
    (repeat (first | with_reducible apply Below.drew | with_reducible refine Below.setCell ?_ (by first | exact Nat.le_refl _ | (simp; done) | (simp; omega) | omega) _ | with_reducible refine Below.alloc ?_ (by first | exact Nat.le_refl _ | (simp; done) | (simp; omega) | omega) _ | with_reducible exact Below.refl _ _ | with_reducible assumption))
  clear hb
  try clear hk
  have hk := hk_new
  clear hk_new
  clear h1 h2 h3 h4
  have hk' := hk
  obtain ⟨h1, h2, h3, h4⟩ := hk'
  simp only [cellsAre_cons, cellsAre_nil, and_true] at h4
  clear ltc_0 ltc_1 ltc_2 ltc_3
  generalize w4.heap.size = b2 at *
  have ltz_0 : w.heap.size < w5.heap.size := by omega
  have nez_0 : ¬ w.heap.size = w5.heap.size := by omega
  have nfz_0 : ¬ w5.heap.size = w.heap.size := by omega
  have ltz_1 : w.heap.size + 1 < w5.heap.size := by omega
  have nez_1 : ¬ w.heap.size + 1 = w5.heap.size := by omega
  have nfz_1 : ¬ w5.heap.size = w.heap.size + 1 := by omega
  have ltz_2 : b0 < w5.heap.size := by omega
  have nez_2 : ¬ b0 = w5.heap.size := by omega
  have nfz_2 : ¬ w5.heap.size = b0 := by omega
  have ltz_3 : b1 < w5.heap.size := by omega
  have nez_3 : ¬ b1 = w5.heap.size := by omega
  have nfz_3 : ¬ w5.heap.size = b1 := by omega
  have ltz_4 : b2 < w5.heap.size := by omega
  have nez_4 : ¬ b2 = w5.heap.size := by omega
  have nfz_4 : ¬ w5.heap.size = b2 := by omega
  have h2z := h2
  go_wp2_with fail
  refine (works_any _).mono ?_
  rintro e w9 ⟨rfl, hb⟩
  have hbl : Below w.heap.size w w9 := by
    refine Below.trans ?_ (hb.mono (by simp; omega))
    (repeat (first | with_reducible apply Below.drew | with_reducible refine Below.setCell ?_ (by first | exact Nat.le_refl _ | (simp; done) | (simp; omega) | omega) _ | with_reducible refine Below.alloc ?_ (by first | exact Nat.le_refl _ | (simp; done) | (simp; omega) | omega) _ | with_reducible exact Below.refl _ _ | with_reducible assumption))
  go_wp2_with fail
  go_ret
  exact ⟨rfl, hbl⟩

set_option maxHeartbeats 8000000 in
theorem either_e23 (t s v a0 a1 : Int) (c : Bool)  (w : World) (hm : mayS ⟨t, c, s, v⟩ = true) (HA : Hid (∀ w, Calls Try.prog 28 #[.agg #[.int .i64 t, .bool c, .int .i64 s, .int .i64 v], .agg #[.int .i64 2, .int .i64 a0]] w fun e w' => e = .returned (.agg #[.int .i64 t, .bool c, .int .i64 (s + a0), .int .i64 (v + 1)]) ∧ Below w.heap.size w w')) (HB : Hid (∀ w, Calls Try.prog 28 #[.agg #[.int .i64 t, .bool c, .int .i64 (s + a0), .int .i64 (v + 1)], .agg #[.int .i64 3, .int .i64 a1]] w fun e w' => e = .returned (.agg #[.int .i64 t, .bool c, .int .i64 (s + a0 - a1), .int .i64 (v + 1 + 1)]) ∧ Below w.heap.size w w')) (HC : Hid (∀ w, Calls Try.prog 28 #[.agg #[.int .i64 t, .bool c, .int .i64 s, .int .i64 v], .agg #[.int .i64 3, .int .i64 a1]] w fun e w' => e = .returned (.agg #[.int .i64 t, .bool c, .int .i64 (s - a1), .int .i64 (v + 1)]) ∧ Below w.heap.size w w')) (HD : Hid (∀ w, Calls Try.prog 28 #[.agg #[.int .i64 t, .bool c, .int .i64 (s - a1), .int .i64 (v + 1)], .agg #[.int .i64 2, .int .i64 a0]] w fun e w' => e = .returned (.agg #[.int .i64 t, .bool c, .int .i64 (s - a1 + a0), .int .i64 (v + 1 + 1)]) ∧ Below w.heap.size w w')) (hn : (v + 1 == v) = false) (hn2 : (v + 1 + 1 == v + 1) = false) (q1 : -1099511627776 ≤ s + a0) (q2 : s + a0 ≤ 1099511627776) (q3 : -1099511627776 ≤ s + a0 - a1) (q4 : s + a0 - a1 ≤ 1099511627776) (q5 : s + a0 - a1 == s - a1 + a0) :
    Calls Try.prog 12 #[.agg #[.int .i64 t, .bool c, .int .i64 s, .int .i64 v], .agg #[.int .i64 2, .int .i64 a0, .int .i64 3, .int .i64 a1]] w fun e w' => e = .returned (.bool true) ∧ Below w.heap.size w w' := by
  go_enter Try.func12, Try.ntmps12
  go_wp2_with fail
  refine (law_may _ _ _ _ _).mono ?_
  rintro e w1 ⟨rfl, hb⟩
  have hk_new : Keeps (w.heap.size + 2) [(⟨w.heap.size, 0, none⟩, .int .i64 t), (⟨w.heap.size, 1, none⟩, .bool c), (⟨w.heap.size, 2, none⟩, .int .i64 s), (⟨w.heap.size, 3, none⟩, .int .i64 v), (⟨w.heap.size + 1, 0, none⟩, .int .i64 2), (⟨w.heap.size + 1, 1, none⟩, .int .i64 a0), (⟨w.heap.size + 1, 2, none⟩, .int .i64 3), (⟨w.heap.size + 1, 3, none⟩, .int .i64 a1)] w w1 := by
    refine Keeps.below ⟨?_, by first | (simp; done) | (simp; omega) | omega, by first | (simp [List.forall_mem_cons]; done) | (simp [List.forall_mem_cons]; omega), by simp [cellsAre_cons, cellsAre_nil, go_sem, World.cell?_alloc_past, *]⟩ hb
    (repeat (first | with_reducible apply Below.drew | with_reducible refine Below.setCell ?_ (by first | exact Nat.le_refl _ | (simp; done) | (simp; omega) | omega) _ | with_reducible refine Below.alloc ?_ (by first | exact Nat.le_refl _ | (simp; done) | (simp; omega) | omega) _ | with_reducible exact Below.refl _ _ | with_reducible assumption))
  clear hb
  try clear hk
  have hk := hk_new
  clear hk_new
  have hk' := hk
  obtain ⟨h1, h2, h3, h4⟩ := hk'
  simp only [cellsAre_cons, cellsAre_nil, and_true] at h4
  go_wp2_with fail
  refine (HA.out _).mono ?_
  rintro e w2 ⟨rfl, hb⟩
  have hk_new : Keeps (w.heap.size + 2) [(⟨w.heap.size, 0, none⟩, .int .i64 t), (⟨w.heap.size, 1, none⟩, .bool c), (⟨w.heap.size, 2, none⟩, .int .i64 s), (⟨w.heap.size, 3, none⟩, .int .i64 v), (⟨w.heap.size + 1, 0, none⟩, .int .i64 2), (⟨w.heap.size + 1, 1, none⟩, .int .i64 a0), (⟨w.heap.size + 1, 2, none⟩, .int .i64 3), (⟨w.heap.size + 1, 3, none⟩, .int .i64 a1)] w w2 := by
    refine Keeps.below ⟨?_, by first | (simp; done) | (simp; omega) | omega, by first | (simp [List.forall_mem_cons]; done) | (simp [List.forall_mem_cons]; omega), by simp [cellsAre_cons, cellsAre_nil, go_sem, World.cell?_alloc_past, *]⟩ hb
    (repeat (first | with_reducible apply Below.drew | with_reducible refine Below.setCell ?_ (by first | exact Nat.le_refl _ | (simp; done) | (simp; omega) | omega) _ | with_reducible refine Below.alloc ?_ (by first | exact Nat.le_refl _ | (simp; done) | (simp; omega) | omega) _ | with_reducible exact Below.refl _ _ | with_reducible assumption))
  clear hb
  try clear hk
  have hk := hk_new
  clear hk_new
  clear h1 h2 h3 h4
  have hk' := hk
  obtain ⟨h1, h2, h3, h4⟩ := hk'
  simp only [cellsAre_cons, cellsAre_nil, and_true] at h4
  have lta_0 : w.heap.size < w2.heap.size := by omega
  have nea_0 : ¬ w.heap.size = w2.heap.size := by omega
  have nfa_0 : ¬ w2.heap.size = w.heap.size := by omega
  have lta_1 : w.heap.size + 1 < w2.heap.size := by omega
  have nea_1 : ¬ w.heap.size + 1 = w2.heap.size := by omega
  have nfa_1 : ¬ w2.heap.size = w.heap.size + 1 := by omega
  have h2a := h2
  go_wp2_with fail
  refine (HB.out _).mono ?_
  rintro e w3 ⟨rfl, hb⟩
  have hk_new : Keeps (w2.heap.size + 1) [(⟨w2.heap.size, 0, none⟩, .int .i64 t), (⟨w2.heap.size, 1, none⟩, .bool c), (⟨w2.heap.size, 2, none⟩, .int .i64 (s + a0)), (⟨w2.heap.size, 3, none⟩, .int .i64 (v + 1)), (⟨w.heap.size, 0, none⟩, .int .i64 t), (⟨w.heap.size, 1, none⟩, .bool c), (⟨w.heap.size, 2, none⟩, .int .i64 s), (⟨w.heap.size, 3, none⟩, .int .i64 v), (⟨w.heap.size + 1, 0, none⟩, .int .i64 2), (⟨w.heap.size + 1, 1, none⟩, .int .i64 a0), (⟨w.heap.size + 1, 2, none⟩, .int .i64 3), (⟨w.heap.size + 1, 3, none⟩, .int .i64 a1)] w w3 := by
    refine Keeps.below ⟨?_, by first | (simp; done) | (simp; omega) | omega, by first | (simp [List.forall_mem_cons]; done) | (simp [List.forall_mem_cons]; omega), by simp [cellsAre_cons, cellsAre_nil, go_sem, World.cell?_alloc_past, *]⟩ hb
    (repeat (first | with_reducible apply Below.drew | with_reducible refine Below.setCell ?_ (by first | exact Nat.le_refl _ | (simp; done) | (simp; omega) | omega) _ | with_reducible refine Below.alloc ?_ (by first | exact Nat.le_refl _ | (simp; done) | (simp; omega) | omega) _ | with_reducible exact Below.refl _ _ | with_reducible assumption))
  clear hb
  try clear hk
  have hk := hk_new
  clear hk_new
  clear h1 h2 h3 h4
  have hk' := hk
  obtain ⟨h1, h2, h3, h4⟩ := hk'
  simp only [cellsAre_cons, cellsAre_nil, and_true] at h4
  clear lta_0 lta_1
  generalize w2.heap.size = b0 at *
  have ltb_0 : w.heap.size < w3.heap.size := by omega
  have neb_0 : ¬ w.heap.size = w3.heap.size := by omega
  have nfb_0 : ¬ w3.heap.size = w.heap.size := by omega
  have ltb_1 : w.heap.size + 1 < w3.heap.size := by omega
  have neb_1 : ¬ w.heap.size + 1 = w3.heap.size := by omega
  have nfb_1 : ¬ w3.heap.size = w.heap.size + 1 := by omega
  have ltb_2 : b0 < w3.heap.size := by omega
  have neb_2 : ¬ b0 = w3.heap.size := by omega
  have nfb_2 : ¬ w3.heap.size = b0 := by omega
  have h2b := h2
  go_wp2_with fail
  refine (HC.out _).mono ?_
  rintro e w4 ⟨rfl, hb⟩
  have hk_new : Keeps (w3.heap.size + 1) [(⟨w3.heap.size, 0, none⟩, .int .i64 t), (⟨w3.heap.size, 1, none⟩, .bool c), (⟨w3.heap.size, 2, none⟩, .int .i64 (s + a0 - a1)), (⟨w3.heap.size, 3, none⟩, .int .i64 (v + 1 + 1)), (⟨b0, 0, none⟩, .int .i64 t), (⟨b0, 1, none⟩, .bool c), (⟨b0, 2, none⟩, .int .i64 (s + a0)), (⟨b0, 3, none⟩, .int .i64 (v + 1)), (⟨w.heap.size, 0, none⟩, .int .i64 t), (⟨w.heap.size, 1, none⟩, .bool c), (⟨w.heap.size, 2, none⟩, .int .i64 s), (⟨w.heap.size, 3, none⟩, .int .i64 v), (⟨w.heap.size + 1, 0, none⟩, .int .i64 2), (⟨w.heap.size + 1, 1, none⟩, .int .i64 a0), (⟨w.heap.size + 1, 2, none⟩, .int .i64 3), (⟨w.heap.size + 1, 3, none⟩, .int .i64 a1)] w w4 := by
    refine Keeps.below ⟨?_, by first | (simp; done) | (simp; omega) | omega, by first | (simp [List.forall_mem_cons]; done) | (simp [List.forall_mem_cons]; omega), by simp [cellsAre_cons, cellsAre_nil, go_sem, World.cell?_alloc_past, *]⟩ hb
    (repeat (first | with_reducible apply Below.drew | with_reducible refine Below.setCell ?_ (by first | exact Nat.le_refl _ | (simp; done) | (simp; omega) | omega) _ | with_reducible refine Below.alloc ?_ (by first | exact Nat.le_refl _ | (simp; done) | (simp; omega) | omega) _ | with_reducible exact Below.refl _ _ | with_reducible assumption))
  clear hb
  try clear hk
  have hk := hk_new
  clear hk_new
  clear h1 h2 h3 h4
  have hk' := hk
  obtain ⟨h1, h2, h3, h4⟩ := hk'
  simp only [cellsAre_cons, cellsAre_nil, and_true] at h4
  clear ltb_0 ltb_1 ltb_2
  generalize w3.heap.size = b1 at *
  have ltc_0 : w.heap.size < w4.heap.size := by omega
  have nec_0 : ¬ w.heap.size = w4.heap.size := by omega
  have nfc_0 : ¬ w4.heap.size = w.heap.size := by omega
  have ltc_1 : w.heap.size + 1 < w4.heap.size := by omega
  have nec_1 : ¬ w.heap.size + 1 = w4.heap.size := by omega
  have nfc_1 : ¬ w4.heap.size = w.heap.size + 1 := by omega
  have ltc_2 : b0 < w4.heap.size := by omega
  have nec_2 : ¬ b0 = w4.heap.size := by omega
  have nfc_2 : ¬ w4.heap.size = b0 := by omega
  have ltc_3 : b1 < w4.heap.size := by omega
  have nec_3 : ¬ b1 = w4.heap.size := by omega
  have nfc_3 : ¬ w4.heap.size = b1 := by omega
  have h2c := h2
  go_wp2_with fail
  refine (HD.out _).mono ?_
  rintro e w5 ⟨rfl, hb⟩
  have hk_new : Keeps (w4.heap.size + 1) [(⟨w4.heap.size, 0, none⟩, .int .i64 t), (⟨w4.heap.size, 1, none⟩, .bool c), (⟨w4.heap.size, 2, none⟩, .int .i64 (s - a1)), (⟨w4.heap.size, 3, none⟩, .int .i64 (v + 1)), (⟨b1, 0, none⟩, .int .i64 t), (⟨b1, 1, none⟩, .bool c), (⟨b1, 2, none⟩, .int .i64 (s + a0 - a1)), (⟨b1, 3, none⟩, .int .i64 (v + 1 + 1)), (⟨b0, 0, none⟩, .int .i64 t), (⟨b0, 1, none⟩, .bool c), (⟨b0, 2, none⟩, .int .i64 (s + a0)), (⟨b0, 3, none⟩, .int .i64 (v + 1)), (⟨w.heap.size, 0, none⟩, .int .i64 t), (⟨w.heap.size, 1, none⟩, .bool c), (⟨w.heap.size, 2, none⟩, .int .i64 s), (⟨w.heap.size, 3, none⟩, .int .i64 v), (⟨w.heap.size + 1, 0, none⟩, .int .i64 2), (⟨w.heap.size + 1, 1, none⟩, .int .i64 a0), (⟨w.heap.size + 1, 2, none⟩, .int .i64 3), (⟨w.heap.size + 1, 3, none⟩, .int .i64 a1)] w w5 := by
    refine Keeps.below ⟨?_, by first | (simp; done) | (simp; omega) | omega, by first | (simp [List.forall_mem_cons]; done) | (simp [List.forall_mem_cons]; omega), by simp [cellsAre_cons, cellsAre_nil, go_sem, World.cell?_alloc_past, *]⟩ hb
    (repeat (first | with_reducible apply Below.drew | with_reducible refine Below.setCell ?_ (by first | exact Nat.le_refl _ | (simp; done) | (simp; omega) | omega) _ | with_reducible refine Below.alloc ?_ (by first | exact Nat.le_refl _ | (simp; done) | (simp; omega) | omega) _ | with_reducible exact Below.refl _ _ | with_reducible assumption))
  clear hb
  try clear hk
  have hk := hk_new
  clear hk_new
  clear h1 h2 h3 h4
  have hk' := hk
  obtain ⟨h1, h2, h3, h4⟩ := hk'
  simp only [cellsAre_cons, cellsAre_nil, and_true] at h4
  clear ltc_0 ltc_1 ltc_2 ltc_3
  generalize w4.heap.size = b2 at *
  have ltz_0 : w.heap.size < w5.heap.size := by omega
  have nez_0 : ¬ w.heap.size = w5.heap.size := by omega
  have nfz_0 : ¬ w5.heap.size = w.heap.size := by omega
  have ltz_1 : w.heap.size + 1 < w5.heap.size := by omega
  have nez_1 : ¬ w.heap.size + 1 = w5.heap.size := by omega
  have nfz_1 : ¬ w5.heap.size = w.heap.size + 1 := by omega
  have ltz_2 : b0 < w5.heap.size := by omega
  have nez_2 : ¬ b0 = w5.heap.size := by omega
  have nfz_2 : ¬ w5.heap.size = b0 := by omega
  have ltz_3 : b1 < w5.heap.size := by omega
  have nez_3 : ¬ b1 = w5.heap.size := by omega
  have nfz_3 : ¬ w5.heap.size = b1 := by omega
  have ltz_4 : b2 < w5.heap.size := by omega
  have nez_4 : ¬ b2 = w5.heap.size := by omega
  have nfz_4 : ¬ w5.heap.size = b2 := by omega
  have h2z := h2
  go_wp2_with fail
  refine wp_loop_rounds 3 ?_
  rw [rounds_succ]
  go_wp2_with fail
  rw [rounds_succ]
  go_wp2_with fail
  rw [rounds_succ]
  go_wp2_with fail
  refine (works_any _).mono ?_
  rintro e w9 ⟨rfl, hb⟩
  have hbl : Below w.heap.size w w9 := by
    refine Below.trans ?_ (hb.mono (by simp; omega))
    (repeat (first | with_reducible apply Below.drew | with_reducible refine Below.setCell ?_ (by first | exact Nat.le_refl _ | (simp; done) | (simp; omega) | omega) _ | with_reducible refine Below.alloc ?_ (by first | exact Nat.le_refl _ | (simp; done) | (simp; omega) | omega) _ | with_reducible exact Below.refl _ _ | with_reducible assumption))
  go_wp2_with fail
  go_ret
  exact ⟨rfl, hbl⟩

set_option maxHeartbeats 8000000 in
theorem either_a32 (t s v a0 a1 : Int) (c : Bool) (qt qs qv : Int) (qc : Bool)(rt rs rv : Int) (rc : Bool)(ut us uv : Int) (uc : Bool) (w : World) (hm : mayS ⟨t, c, s, v⟩ = true) (HA : Hid (∀ w, Calls Try.prog 28 #[.agg #[.int .i64 t, .bool c, .int .i64 s, .int .i64 v], .agg #[.int .i64 3, .int .i64 a0]] w fun e w' => e = .returned (.agg #[.int .i64 t, .bool c, .int .i64 s, .int .i64 v]) ∧ Below w.heap.size w w')) (HB : Hid (∀ w, Calls Try.prog 28 #[.agg #[.int .i64 t, .bool c, .int .i64 s, .int .i64 v], .agg #[.int .i64 2, .int .i64 a1]] w fun e w' => e = .returned (.agg #[.int .i64 qt, .bool qc, .int .i64 qs, .int .i64 qv]) ∧ Below w.heap.size w w')) (HC : Hid (∀ w, Calls Try.prog 28 #[.agg #[.int .i64 t, .bool c, .int .i64 s, .int .i64 v], .agg #[.int .i64 2, .int .i64 a1]] w fun e w' => e = .returned (.agg #[.int .i64 rt, .bool rc, .int .i64 rs, .int .i64 rv]) ∧ Below w.heap.size w w')) (HD : Hid (∀ w, Calls Try.prog 28 #[.agg #[.int .i64 rt, .bool rc, .int .i64 rs, .int .i64 rv], .agg #[.int .i64 3, .int .i64 a0]] w fun e w' => e = .returned (.agg #[.int .i64 ut, .bool uc, .int .i64 us, .int .i64 uv]) ∧ Below w.heap.size w w'))  :
    Calls Try.prog 12 #[.agg #[.int .i64 t, .bool c, .int .i64 s, .int .i64 v], .agg #[.int .i64 3, .int .i64 a0, .int .i64 2, .int .i64 a1]] w fun e w' => e = .returned (.bool true) ∧ Below w.heap.size w w' := by
  go_enter Try.func12, Try.ntmps12
  go_wp2_with fail
  refine (law_may _ _ _ _ _).mono ?_
  rintro e w1 ⟨rfl, hb⟩
  have hk_new : Keeps (w.heap.size + 2) [(⟨w.heap.size, 0, none⟩, .int .i64 t), (⟨w.heap.size, 1, none⟩, .bool c), (⟨w.heap.size, 2, none⟩, .int .i64 s), (⟨w.heap.size, 3, none⟩, .int .i64 v), (⟨w.heap.size + 1, 0, none⟩, .int .i64 3), (⟨w.heap.size + 1, 1, none⟩, .int .i64 a0), (⟨w.heap.size + 1, 2, none⟩, .int .i64 2), (⟨w.heap.size + 1, 3, none⟩, .int .i64 a1)] w w1 := by
    refine Keeps.below ⟨?_, by first | (simp; done) | (simp; omega) | omega, by first | (simp [List.forall_mem_cons]; done) | (simp [List.forall_mem_cons]; omega), by simp [cellsAre_cons, cellsAre_nil, go_sem, World.cell?_alloc_past, *]⟩ hb
    (repeat (first | with_reducible apply Below.drew | with_reducible refine Below.setCell ?_ (by first | exact Nat.le_refl _ | (simp; done) | (simp; omega) | omega) _ | with_reducible refine Below.alloc ?_ (by first | exact Nat.le_refl _ | (simp; done) | (simp; omega) | omega) _ | with_reducible exact Below.refl _ _ | with_reducible assumption))
  clear hb
  try clear hk
  have hk := hk_new
  clear hk_new
  have hk' := hk
  obtain ⟨h1, h2, h3, h4⟩ := hk'
  simp only [cellsAre_cons, cellsAre_nil, and_true] at h4
  go_wp2_with fail
  refine (HA.out _).mono ?_
  rintro e w2 ⟨rfl, hb⟩
  have hk_new : Keeps (w.heap.size + 2) [(⟨w.heap.size, 0, none⟩, .int .i64 t), (⟨w.heap.size, 1, none⟩, .bool c), (⟨w.heap.size, 2, none⟩, .int .i64 s), (⟨w.heap.size, 3, none⟩, .int .i64 v), (⟨w.heap.size + 1, 0, none⟩, .int .i64 3), (⟨w.heap.size + 1, 1, none⟩, .int .i64 a0), (⟨w.heap.size + 1, 2, none⟩, .int .i64 2), (⟨w.heap.size + 1, 3, none⟩, .int .i64 a1)] w w2 := by
    refine Keeps.below ⟨?_, by first | (simp; done) | (simp; omega) | omega, by first | (simp [List.forall_mem_cons]; done) | (simp [List.forall_mem_cons]; omega), by simp [cellsAre_cons, cellsAre_nil, go_sem, World.cell?_alloc_past, *]⟩ hb
    (repeat (first | with_reducible apply Below.drew | with_reducible refine Below.setCell ?_ (by first | exact Nat.le_refl _ | (simp; done) | (simp; omega) | omega) _ | with_reducible refine Below.alloc ?_ (by first | exact Nat.le_refl _ | (simp; done) | (simp; omega) | omega) _ | with_reducible exact Below.refl _ _ | with_reducible assumption))
  clear hb
  try clear hk
  have hk := hk_new
  clear hk_new
  clear h1 h2 h3 h4
  have hk' := hk
  obtain ⟨h1, h2, h3, h4⟩ := hk'
  simp only [cellsAre_cons, cellsAre_nil, and_true] at h4
  have lta_0 : w.heap.size < w2.heap.size := by omega
  have nea_0 : ¬ w.heap.size = w2.heap.size := by omega
  have nfa_0 : ¬ w2.heap.size = w.heap.size := by omega
  have lta_1 : w.heap.size + 1 < w2.heap.size := by omega
  have nea_1 : ¬ w.heap.size + 1 = w2.heap.size := by omega
  have nfa_1 : ¬ w2.heap.size = w.heap.size + 1 := by omega
  have h2a := h2
  go_wp2_with fail
  refine (HB.out _).mono ?_
  rintro e w3 ⟨rfl, hb⟩
  have hk_new : Keeps (w2.heap.size + 1) [(⟨w2.heap.size, 0, none⟩, .int .i64 t), (⟨w2.heap.size, 1, none⟩, .bool c), (⟨w2.heap.size, 2, none⟩, .int .i64 s), (⟨w2.heap.size, 3, none⟩, .int .i64 v), (⟨w.heap.size, 0, none⟩, .int .i64 t), (⟨w.heap.size, 1, none⟩, .bool c), (⟨w.heap.size, 2, none⟩, .int .i64 s), (⟨w.heap.size, 3, none⟩, .int .i64 v), (⟨w.heap.size + 1, 0, none⟩, .int .i64 3), (⟨w.heap.size + 1, 1, none⟩, .int .i64 a0), (⟨w.heap.size + 1, 2, none⟩, .int .i64 2), (⟨w.heap.size + 1, 3, none⟩, .int .i64 a1)] w w3 := by
    refine Keeps.below ⟨?_, by first | (simp; done) | (simp; omega) | omega, by first | (simp [List.forall_mem_cons]; done) | (simp [List.forall_mem_cons]; omega), by simp [cellsAre_cons, cellsAre_nil, go_sem, World.cell?_alloc_past, *]⟩ hb
    (repeat (first | with_reducible apply Below.drew | with_reducible refine Below.setCell ?_ (by first | exact Nat.le_refl _ | (simp; done) | (simp; omega) | omega) _ | with_reducible refine Below.alloc ?_ (by first | exact Nat.le_refl _ | (simp; done) | (simp; omega) | omega) _ | with_reducible exact Below.refl _ _ | with_reducible assumption))
  clear hb
  try clear hk
  have hk := hk_new
  clear hk_new
  clear h1 h2 h3 h4
  have hk' := hk
  obtain ⟨h1, h2, h3, h4⟩ := hk'
  simp only [cellsAre_cons, cellsAre_nil, and_true] at h4
  clear lta_0 lta_1
  generalize w2.heap.size = b0 at *
  have ltb_0 : w.heap.size < w3.heap.size := by omega
  have neb_0 : ¬ w.heap.size = w3.heap.size := by omega
  have nfb_0 : ¬ w3.heap.size = w.heap.size := by omega
  have ltb_1 : w.heap.size + 1 < w3.heap.size := by omega
  have neb_1 : ¬ w.heap.size + 1 = w3.heap.size := by omega
  have nfb_1 : ¬ w3.heap.size = w.heap.size + 1 := by omega
  have ltb_2 : b0 < w3.heap.size := by omega
  have neb_2 : ¬ b0 = w3.heap.size := by omega
  have nfb_2 : ¬ w3.heap.size = b0 := by omega
  have h2b := h2
  go_wp2_with fail
  refine (HC.out _).mono ?_
  rintro e w4 ⟨rfl, hb⟩
  have hk_new : Keeps (w3.heap.size + 1) [(⟨w3.heap.size, 0, none⟩, .int .i64 qt), (⟨w3.heap.size, 1, none⟩, .bool qc), (⟨w3.heap.size, 2, none⟩, .int .i64 qs), (⟨w3.heap.size, 3, none⟩, .int .i64 qv), (⟨b0, 0, none⟩, .int .i64 t), (⟨b0, 1, none⟩, .bool c), (⟨b0, 2, none⟩, .int .i64 s), (⟨b0, 3, none⟩, .int .i64 v), (⟨w.heap.size, 0, none⟩, .int .i64 t), (⟨w.heap.size, 1, none⟩, .bool c), (⟨w.heap.size, 2, none⟩, .int .i64 s), (⟨w.heap.size, 3, none⟩, .int .i64 v), (⟨w.heap.size + 1, 0, none⟩, .int .i64 3), (⟨w.heap.size + 1, 1, none⟩, .int .i64 a0), (⟨w.heap.size + 1, 2, none⟩, .int .i64 2), (⟨w.heap.size + 1, 3, none⟩, .int .i64 a1)] w w4 := by
    refine Keeps.below ⟨?_, by first | (simp; done) | (simp; omega) | omega, by first | (simp [List.forall_mem_cons]; done) | (simp [List.forall_mem_cons]; omega), by simp [cellsAre_cons, cellsAre_nil, go_sem, World.cell?_alloc_past, *]⟩ hb
    (repeat (first | with_reducible apply Below.drew | with_reducible refine Below.setCell ?_ (by first | exact Nat.le_refl _ | (simp; done) | (simp; omega) | omega) _ | with_reducible refine Below.alloc ?_ (by first | exact Nat.le_refl _ | (simp; done) | (simp; omega) | omega) _ | with_reducible exact Below.refl _ _ | with_reducible assumption))
  clear hb
  try clear hk
  have hk := hk_new
  clear hk_new
  clear h1 h2 h3 h4
  have hk' := hk
  obtain ⟨h1, h2, h3, h4⟩ := hk'
  simp only [cellsAre_cons, cellsAre_nil, and_true] at h4
  clear ltb_0 ltb_1 ltb_2
  generalize w3.heap.size = b1 at *
  have ltc_0 : w.heap.size < w4.heap.size := by omega
  have nec_0 : ¬ w.heap.size = w4.heap.size := by omega
  have nfc_0 : ¬ w4.heap.size = w.heap.size := by omega
  have ltc_1 : w.heap.size + 1 < w4.heap.size := by omega
  have nec_1 : ¬ w.heap.size + 1 = w4.heap.size := by omega
  have nfc_1 : ¬ w4.heap.size = w.heap.size + 1 := by omega
  have ltc_2 : b0 < w4.heap.size := by omega
  have nec_2 : ¬ b0 = w4.heap.size := by omega
  have nfc_2 : ¬ w4.heap.size = b0 := by omega
  have ltc_3 : b1 < w4.heap.size := by omega
  have nec_3 : ¬ b1 = w4.heap.size := by omega
  have nfc_3 : ¬ w4.heap.size = b1 := by omega
  have h2c := h2
  go_wp2_with fail
  refine (HD.out _).mono ?_
  rintro e w5 ⟨rfl, hb⟩
  have hk_new : Keeps (w4.heap.size + 1) [(⟨w4.heap.size, 0, none⟩, .int .i64 rt), (⟨w4.heap.size, 1, none⟩, .bool rc), (⟨w4.heap.size, 2, none⟩, .int .i64 rs), (⟨w4.heap.size, 3, none⟩, .int .i64 rv), (⟨b1, 0, none⟩, .int .i64 qt), (⟨b1, 1, none⟩, .bool qc), (⟨b1, 2, none⟩, .int .i64 qs), (⟨b1, 3, none⟩, .int .i64 qv), (⟨b0, 0, none⟩, .int .i64 t), (⟨b0, 1, none⟩, .bool c), (⟨b0, 2, none⟩, .int .i64 s), (⟨b0, 3, none⟩, .int .i64 v), (⟨w.heap.size, 0, none⟩, .int .i64 t), (⟨w.heap.size, 1, none⟩, .bool c), (⟨w.heap.size, 2, none⟩, .int .i64 s), (⟨w.heap.size, 3, none⟩, .int .i64 v), (⟨w.heap.size + 1, 0, none⟩, .int .i64 3), (⟨w.heap.size + 1, 1, none⟩, .int .i64 a0), (⟨w.heap.size + 1, 2, none⟩, .int .i64 2), (⟨w.heap.size + 1, 3, none⟩, .int .i64 a1)] w w5 := by
    refine Keeps.below ⟨?_, by first | (simp; done) | (simp; omega) | omega, by first | (simp [List.forall_mem_cons]; done) | (simp [List.forall_mem_cons]; omega), by simp [cellsAre_cons, cellsAre_nil, go_sem, World.cell?_alloc_past, *]⟩ hb
    (repeat (first | with_reducible apply Below.drew | with_reducible refine Below.setCell ?_ (by first | exact Nat.le_refl _ | (simp; done) | (simp; omega) | omega) _ | with_reducible refine Below.alloc ?_ (by first | exact Nat.le_refl _ | (simp; done) | (simp; omega) | omega) _ | with_reducible exact Below.refl _ _ | with_reducible assumption))
  clear hb
  try clear hk
  have hk := hk_new
  clear hk_new
  clear h1 h2 h3 h4
  have hk' := hk
  obtain ⟨h1, h2, h3, h4⟩ := hk'
  simp only [cellsAre_cons, cellsAre_nil, and_true] at h4
  clear ltc_0 ltc_1 ltc_2 ltc_3
  generalize w4.heap.size = b2 at *
  have ltz_0 : w.heap.size < w5.heap.size := by omega
  have nez_0 : ¬ w.heap.size = w5.heap.size := by omega
  have nfz_0 : ¬ w5.heap.size = w.heap.size := by omega
  have ltz_1 : w.heap.size + 1 < w5.heap.size := by omega
  have nez_1 : ¬ w.heap.size + 1 = w5.heap.size := by omega
  have nfz_1 : ¬ w5.heap.size = w.heap.size + 1 := by omega
  have ltz_2 : b0 < w5.heap.size := by omega
  have nez_2 : ¬ b0 = w5.heap.size := by omega
  have nfz_2 : ¬ w5.heap.size = b0 := by omega
  have ltz_3 : b1 < w5.heap.size := by omega
  have nez_3 : ¬ b1 = w5.heap.size := by omega
  have nfz_3 : ¬ w5.heap.size = b1 := by omega
  have ltz_4 : b2 < w5.heap.size := by omega
  have nez_4 : ¬ b2 = w5.heap.size := by omega
  have nfz_4 : ¬ w5.heap.size = b2 := by omega
  have h2z := h2
  go_wp2_with fail
  refine (works_any _).mono ?_
  rintro e w9 ⟨rfl, hb⟩
  have hbl : Below w.heap.size w w9 := by
    refine Below.trans ?_ (hb.mono (by simp; omega))
    (repeat (first | with_reducible apply Below.drew | with_reducible refine Below.setCell ?_ (by first | exact Nat.le_refl _ | (simp; done) | (simp; omega) | omega) _ | with_reducible refine Below.alloc ?_ (by first | exact Nat.le_refl _ | (simp; done) | (simp; omega) | omega) _ | with_reducible exact Below.refl _ _ | with_reducible assumption))
  go_wp2_with fail
  go_ret
  exact ⟨rfl, hbl⟩

set_option maxHeartbeats 8000000 in
theorem either_b32 (t s v a0 a1 : Int) (c : Bool) (pt ps : Int) (pc : Bool)(rt rs rv : Int) (rc : Bool)(ut us uv : Int) (uc : Bool) (w : World) (hm : mayS ⟨t, c, s, v⟩ = true) (HA : Hid (∀ w, Calls Try.prog 28 #[.agg #[.int .i64 t, .bool c, .int .i64 s, .int .i64 v], .agg #[.int .i64 3, .int .i64 a0]] w fun e w' => e = .returned (.agg #[.int .i64 pt, .bool pc, .int .i64 ps, .int .i64 (v + 1)]) ∧ Below w.heap.size w w')) (HB : Hid (∀ w, Calls Try.prog 28 #[.agg #[.int .i64 pt, .bool pc, .int .i64 ps, .int .i64 (v + 1)], .agg #[.int .i64 2, .int .i64 a1]] w fun e w' => e = .returned (.agg #[.int .i64 pt, .bool pc, .int .i64 ps, .int .i64 (v + 1)]) ∧ Below w.heap.size w w')) (HC : Hid (∀ w, Calls Try.prog 28 #[.agg #[.int .i64 t, .bool c, .int .i64 s, .int .i64 v], .agg #[.int .i64 2, .int .i64 a1]] w fun e w' => e = .returned (.agg #[.int .i64 rt, .bool rc, .int .i64 rs, .int .i64 rv]) ∧ Below w.heap.size w w')) (HD : Hid (∀ w, Calls Try.prog 28 #[.agg #[.int .i64 rt, .bool rc, .int .i64 rs, .int .i64 rv], .agg #[.int .i64 3, .int .i64 a0]] w fun e w' => e = .returned (.agg #[.int .i64 ut, .bool uc, .int .i64 us, .int .i64 uv]) ∧ Below w.heap.size w w')) (hn : (v + 1 == v) = false) :
    Calls Try.prog 12 #[.agg #[.int .i64 t, .bool c, .int .i64 s, .int .i64 v], .agg #[.int .i64 3, .int .i64 a0, .int .i64 2, .int .i64 a1]] w fun e w' => e = .returned (.bool true) ∧ Below w.heap.size w w' := by
  go_enter Try.func12, Try.ntmps12
  go_wp2_with fail
  refine (law_may _ _ _ _ _).mono ?_
  rintro e w1 ⟨rfl, hb⟩
  have hk_new : Keeps (w.heap.size + 2) [(⟨w.heap.size, 0, none⟩, .int .i64 t), (⟨w.heap.size, 1, none⟩, .bool c), (⟨w.heap.size, 2, none⟩, .int .i64 s), (⟨w.heap.size, 3, none⟩, .int .i64 v), (⟨w.heap.size + 1, 0, none⟩, .int .i64 3), (⟨w.heap.size + 1, 1, none⟩, .int .i64 a0), (⟨w.heap.size + 1, 2, none⟩, .int .i64 2), (⟨w.heap.size + 1, 3, none⟩, .int .i64 a1)] w w1 := by
    refine Keeps.below ⟨?_, by first | (simp; done) | (simp; omega) | omega, by first | (simp [List.forall_mem_cons]; done) | (simp [List.forall_mem_cons]; omega), by simp [cellsAre_cons, cellsAre_nil, go_sem, World.cell?_alloc_past, *]⟩ hb
    (repeat (first | with_reducible apply Below.drew | with_reducible refine Below.setCell ?_ (by first | exact Nat.le_refl _ | (simp; done) | (simp; omega) | omega) _ | with_reducible refine Below.alloc ?_ (by first | exact Nat.le_refl _ | (simp; done) | (simp; omega) | omega) _ | with_reducible exact Below.refl _ _ | with_reducible assumption))
  clear hb
  try clear hk
  have hk := hk_new
  clear hk_new
  have hk' := hk
  obtain ⟨h1, h2, h3, h4⟩ := hk'
  simp only [cellsAre_cons, cellsAre_nil, and_true] at h4
  go_wp2_with fail
  refine (HA.out _).mono ?_
  rintro e w2 ⟨rfl, hb⟩
  have hk_new : Keeps (w.heap.size + 2) [(⟨w.heap.size, 0, none⟩, .int .i64 t), (⟨w.heap.size, 1, none⟩, .bool c), (⟨w.heap.size, 2, none⟩, .int .i64 s), (⟨w.heap.size, 3, none⟩, .int .i64 v), (⟨w.heap.size + 1, 0, none⟩, .int .i64 3), (⟨w.heap.size + 1, 1, none⟩, .int .i64 a0), (⟨w.heap.size + 1, 2, none⟩, .int .i64 2), (⟨w.heap.size + 1, 3, none⟩, .int .i64 a1)] w w2 := by
    refine Keeps.below ⟨?_, by first | (simp; done) | (simp; omega) | omega, by first | (simp [List.forall_mem_cons]; done) | (simp [List.forall_mem_cons]; omega), by simp [cellsAre_cons, cellsAre_nil, go_sem, World.cell?_alloc_past, *]⟩ hb
    (repeat (first | with_reducible apply Below.drew | with_reducible refine Below.setCell ?_ (by first | exact Nat.le_refl _ | (simp; done) | (simp; omega) | omega) _ | with_reducible refine Below.alloc ?_ (by first | exact Nat.le_refl _ | (simp; done) | (simp; omega) | omega) _ | with_reducible exact Below.refl _ _ | with_reducible assumption))
  clear hb
  try clear hk
  have hk := hk_new
  clear hk_new
  clear h1 h2 h3 h4
  have hk' := hk
  obtain ⟨h1, h2, h3, h4⟩ := hk'
  simp only [cellsAre_cons, cellsAre_nil, and_true] at h4
  have lta_0 : w.heap.size < w2.heap.size := by omega
  have nea_0 : ¬ w.heap.size = w2.heap.size := by omega
  have nfa_0 : ¬ w2.heap.size = w.heap.size := by omega
  have lta_1 : w.heap.size + 1 < w2.heap.size := by omega
  have nea_1 : ¬ w.heap.size + 1 = w2.heap.size := by omega
  have nfa_1 : ¬ w2.heap.size = w.heap.size + 1 := by omega
  have h2a := h2
  go_wp2_with fail
  refine (HB.out _).mono ?_
  rintro e w3 ⟨rfl, hb⟩
  have hk_new : Keeps (w2.heap.size + 1) [(⟨w2.heap.size, 0, none⟩, .int .i64 pt), (⟨w2.heap.size, 1, none⟩, .bool pc), (⟨w2.heap.size, 2, none⟩, .int .i64 ps), (⟨w2.heap.size, 3, none⟩, .int .i64 (v + 1)), (⟨w.heap.size, 0, none⟩, .int .i64 t), (⟨w.heap.size, 1, none⟩, .bool c), (⟨w.heap.size, 2, none⟩, .int .i64 s), (⟨w.heap.size, 3, none⟩, .int .i64 v), (⟨w.heap.size + 1, 0, none⟩, .int .i64 3), (⟨w.heap.size + 1, 1, none⟩, .int .i64 a0), (⟨w.heap.size + 1, 2, none⟩, .int .i64 2), (⟨w.heap.size + 1, 3, none⟩, .int .i64 a1)] w w3 := by
    refine Keeps.below ⟨?_, by first | (simp; done) | (simp; omega) | omega, by first | (simp [List.forall_mem_cons]; done) | (simp [List.forall_mem_cons]; omega), by simp [cellsAre_cons, cellsAre_nil, go_sem, World.cell?_alloc_past, *]⟩ hb
    (repeat (first | with_reducible apply Below.drew | with_reducible refine Below.setCell ?_ (by first | exact Nat.le_refl _ | (simp; done) | (simp; omega) | omega) _ | with_reducible refine Below.alloc ?_ (by first | exact Nat.le_refl _ | (simp; done) | (simp; omega) | omega) _ | with_reducible exact Below.refl _ _ | with_reducible assumption))
  clear hb
  try clear hk
  have hk := hk_new
  clear hk_new
  clear h1 h2 h3 h4
  have hk' := hk
  obtain ⟨h1, h2, h3, h4⟩ := hk'
  simp only [cellsAre_cons, cellsAre_nil, and_true] at h4
  clear lta_0 lta_1
  generalize w2.heap.size = b0 at *
  have ltb_0 : w.heap.size < w3.heap.size := by omega
  have neb_0 : ¬ w.heap.size = w3.heap.size := by omega
  have nfb_0 : ¬ w3.heap.size = w.heap.size := by omega
  have ltb_1 : w.heap.size + 1 < w3.heap.size := by omega
  have neb_1 : ¬ w.heap.size + 1 = w3.heap.size := by omega
  have nfb_1 : ¬ w3.heap.size = w.heap.size + 1 := by omega
  have ltb_2 : b0 < w3.heap.size := by omega
  have neb_2 : ¬ b0 = w3.heap.size := by omega
  have nfb_2 : ¬ w3.heap.size = b0 := by omega
  have h2b := h2
  go_wp2_with fail
  refine (HC.out _).mono ?_
  rintro e w4 ⟨rfl, hb⟩
  have hk_new : Keeps (w3.heap.size + 1) [(⟨w3.heap.size, 0, none⟩, .int .i64 pt), (⟨w3.heap.size, 1, none⟩, .bool pc), (⟨w3.heap.size, 2, none⟩, .int .i64 ps), (⟨w3.heap.size, 3, none⟩, .int .i64 (v + 1)), (⟨b0, 0, none⟩, .int .i64 pt), (⟨b0, 1, none⟩, .bool pc), (⟨b0, 2, none⟩, .int .i64 ps), (⟨b0, 3, none⟩, .int .i64 (v + 1)), (⟨w.heap.size, 0, none⟩, .int .i64 t), (⟨w.heap.size, 1, none⟩, .bool c), (⟨w.heap.size, 2, none⟩, .int .i64 s), (⟨w.heap.size, 3, none⟩, .int .i64 v), (⟨w.heap.size + 1, 0, none⟩, .int .i64 3), (⟨w.heap.size + 1, 1, none⟩, .int .i64 a0), (⟨w.heap.size + 1, 2, none⟩, .int .i64 2), (⟨w.heap.size + 1, 3, none⟩, .int .i64 a1)] w w4 := by
    refine Keeps.below ⟨?_, by first | (simp; done) | (simp; omega) | omega, by first | (simp [List.forall_mem_cons]; done) | (simp [List.forall_mem_cons]; omega), by simp [cellsAre_cons, cellsAre_nil, go_sem, World.cell?_alloc_past, *]⟩ hb
    (repeat (first | with_reducible apply Below.drew | with_reducible refine Below.setCell ?_ (by first | exact Nat.le_refl _ | (simp; done) | (simp; omega) | omega) _ | with_reducible refine Below.alloc ?_ (by first | exact Nat.le_refl _ | (simp; done) | (simp; omega) | omega) _ | with_reducible exact Below.refl _ _ | with_reducible assumption))
  clear hb
  try clear hk
  have hk := hk_new
  clear hk_new
  clear h1 h2 h3 h4
  have hk' := hk
  obtain ⟨h1, h2, h3, h4⟩ := hk'
  simp only [cellsAre_cons, cellsAre_nil, and_true] at h4
  clear ltb_0 ltb_1 ltb_2
  generalize w3.heap.size = b1 at *
  have ltc_0 : w.heap.size < w4.heap.size := by omega
  have nec_0 : ¬ w.heap.size = w4.heap.size := by omega
  have nfc_0 : ¬ w4.heap.size = w.heap.size := by omega
  have ltc_1 : w.heap.size + 1 < w4.heap.size := by omega
  have nec_1 : ¬ w.heap.size + 1 = w4.heap.size := by omega
  have nfc_1 : ¬ w4.heap.size = w.heap.size + 1 := by omega
  have ltc_2 : b0 < w4.heap.size := by omega
  have nec_2 : ¬ b0 = w4.heap.size := by omega
  have nfc_2 : ¬ w4.heap.size = b0 := by omega
  have ltc_3 : b1 < w4.heap.size := by omega
  have nec_3 : ¬ b1 = w4.heap.size := by omega
  have nfc_3 : ¬ w4.heap.size = b1 := by omega
  have h2c := h2
  go_wp2_with fail
  refine (HD.out _).mono ?_
  rintro e w5 ⟨rfl, hb⟩
  have hk_new : Keeps (w4.heap.size + 1) [(⟨w4.heap.size, 0, none⟩, .int .i64 rt), (⟨w4.heap.size, 1, none⟩, .bool rc), (⟨w4.heap.size, 2, none⟩, .int .i64 rs), (⟨w4.heap.size, 3, none⟩, .int .i64 rv), (⟨b1, 0, none⟩, .int .i64 pt), (⟨b1, 1, none⟩, .bool pc), (⟨b1, 2, none⟩, .int .i64 ps), (⟨b1, 3, none⟩, .int .i64 (v + 1)), (⟨b0, 0, none⟩, .int .i64 pt), (⟨b0, 1, none⟩, .bool pc), (⟨b0, 2, none⟩, .int .i64 ps), (⟨b0, 3, none⟩, .int .i64 (v + 1)), (⟨w.heap.size, 0, none⟩, .int .i64 t), (⟨w.heap.size, 1, none⟩, .bool c), (⟨w.heap.size, 2, none⟩, .int .i64 s), (⟨w.heap.size, 3, none⟩, .int .i64 v), (⟨w.heap.size + 1, 0, none⟩, .int .i64 3), (⟨w.heap.size + 1, 1, none⟩, .int .i64 a0), (⟨w.heap.size + 1, 2, none⟩, .int .i64 2), (⟨w.heap.size + 1, 3, none⟩, .int .i64 a1)] w w5 := by
    refine Keeps.below ⟨?_, by first | (simp; done) | (simp; omega) | omega, by first | (simp [List.forall_mem_cons]; done) | (simp [List.forall_mem_cons]; omega), by simp [cellsAre_cons, cellsAre_nil, go_sem, World.cell?_alloc_past, *]⟩ hb
    (repeat (first | with_reducible apply Below.drew | with_reducible refine Below.setCell ?_ (by first | exact Nat.le_refl _ | (simp; done) | (simp; omega) | omega) _ | with_reducible refine Below.alloc ?_ (by first | exact Nat.le_refl _ | (simp; done) | (simp; omega) | omega) _ | with_reducible exact Below.refl _ _ | with_reducible assumption))
  clear hb
  try clear hk
  have hk := hk_new
  clear hk_new
  clear h1 h2 h3 h4
  have hk' := hk
  obtain ⟨h1, h2, h3, h4⟩ := hk'
  simp only [cellsAre_cons, cellsAre_nil, and_true] at h4
  clear ltc_0 ltc_1 ltc_2 ltc_3
  generalize w4.heap.size = b2 at *
  have ltz_0 : w.heap.size < w5.heap.size := by omega
  have nez_0 : ¬ w.heap.size = w5.heap.size := by omega
  have nfz_0 : ¬ w5.heap.size = w.heap.size := by omega
  have ltz_1 : w.heap.size + 1 < w5.heap.size := by omega
  have nez_1 : ¬ w.heap.size + 1 = w5.heap.size := by omega
  have nfz_1 : ¬ w5.heap.size = w.heap.size + 1 := by omega
  have ltz_2 : b0 < w5.heap.size := by omega
  have nez_2 : ¬ b0 = w5.heap.size := by omega
  have nfz_2 : ¬ w5.heap.size = b0 := by omega
  have ltz_3 : b1 < w5.heap.size := by omega
  have nez_3 : ¬ b1 = w5.heap.size := by omega
  have nfz_3 : ¬ w5.heap.size = b1 := by omega
  have ltz_4 : b2 < w5.heap.size := by omega
  have nez_4 : ¬ b2 = w5.heap.size := by omega
  have nfz_4 : ¬ w5.heap.size = b2 := by omega
  have h2z := h2
  go_wp2_with fail
  refine (works_any _).mono ?_
  rintro e w9 ⟨rfl, hb⟩
  have hbl : Below w.heap.size w w9 := by
    refine Below.trans ?_ (hb.mono (by simp; omega))
    (repeat (first | with_reducible apply Below.drew | with_reducible refine Below.setCell ?_ (by first | exact Nat.le_refl _ | (simp; done) | (simp; omega) | omega) _ | with_reducible refine Below.alloc ?_ (by first | exact Nat.le_refl _ | (simp; done) | (simp; omega) | omega) _ | with_reducible exact Below.refl _ _ | with_reducible assumption))
  go_wp2_with fail
  go_ret
  exact ⟨rfl, hbl⟩

set_option maxHeartbeats 8000000 in
theorem either_c32 (t s v a0 a1 : Int) (c : Bool) (pt ps : Int) (pc : Bool) (qt qs : Int) (qc : Bool)(ut us uv : Int) (uc : Bool) (w : World) (hm : mayS ⟨t, c, s, v⟩ = true) (HA : Hid (∀ w, Calls Try.prog 28 #[.agg #[.int .i64 t, .bool c, .int .i64 s, .int .i64 v], .agg #[.int .i64 3, .int .i64 a0]] w fun e w' => e = .returned (.agg #[.int .i64 pt, .bool pc, .int .i64 ps, .int .i64 (v + 1)]) ∧ Below w.heap.size w w')) (HB : Hid (∀ w, Calls Try.prog 28 #[.agg #[.int .i64 pt, .bool pc, .int .i64 ps, .int .i64 (v + 1)], .agg #[.int .i64 2, .int .i64 a1]] w fun e w' => e = .returned (.agg #[.int .i64 qt, .bool qc, .int .i64 qs, .int .i64 (v + 1 + 1)]) ∧ Below w.heap.size w w')) (HC : Hid (∀ w, Calls Try.prog 28 #[.agg #[.int .i64 t, .bool c, .int .i64 s, .int .i64 v], .agg #[.int .i64 2, .int .i64 a1]] w fun e w' => e = .returned (.agg #[.int .i64 t, .bool c, .int .i64 s, .int .i64 v]) ∧ Below w.heap.size w w')) (HD : Hid (∀ w, Calls Try.prog 28 #[.agg #[.int .i64 t, .bool c, .int .i64 s, .int .i64 v], .agg #[.int .i64 3, .int .i64 a0]] w fun e w' => e = .returned (.agg #[.int .i64 ut, .bool uc, .int .i64 us, .int .i64 uv]) ∧ Below w.heap.size w w')) (hn : (v + 1 == v) = false) (hn2 : (v + 1 + 1 == v + 1) = false) :
    Calls Try.prog 12 #[.agg #[.int .i64 t, .bool c, .int .i64 s, .int .i64 v], .agg #[.int .i64 3, .int .i64 a0, .int .i64 2, .int .i64 a1]] w fun e w' => e = .returned (.bool true) ∧ Below w.heap.size w w' := by
  go_enter Try.func12, Try.ntmps12
  go_wp2_with fail
  refine (law_may _ _ _ _ _).mono ?_
  rintro e w1 ⟨rfl, hb⟩
  have hk_new : Keeps (w.heap.size + 2) [(⟨w.heap.size, 0, none⟩, .int .i64 t), (⟨w.heap.size, 1, none⟩, .bool c), (⟨w.heap.size, 2, none⟩, .int .i64 s), (⟨w.heap.size, 3, none⟩, .int .i64 v), (⟨w.heap.size + 1, 0, none⟩, .int .i64 3), (⟨w.heap.size + 1, 1, none⟩, .int .i64 a0), (⟨w.heap.size + 1, 2, none⟩, .int .i64 2), (⟨w.heap.size + 1, 3, none⟩, .int .i64 a1)] w w1 := by
    refine Keeps.below ⟨?_, by first | (simp; done) | (simp; omega) | omega, by first | (simp [List.forall_mem_cons]; done) | (simp [List.forall_mem_cons]; omega), by simp [cellsAre_cons, cellsAre_nil, go_sem, World.cell?_alloc_past, *]⟩ hb
    (repeat (first | with_reducible apply Below.drew | with_reducible refine Below.setCell ?_ (by first | exact Nat.le_refl _ | (simp; done) | (simp; omega) | omega) _ | with_reducible refine Below.alloc ?_ (by first | exact Nat.le_refl _ | (simp; done) | (simp; omega) | omega) _ | with_reducible exact Below.refl _ _ | with_reducible assumption))
  clear hb
  try clear hk
  have hk := hk_new
  clear hk_new
  have hk' := hk
  obtain ⟨h1, h2, h3, h4⟩ := hk'
  simp only [cellsAre_cons, cellsAre_nil, and_true] at h4
  go_wp2_with fail
  refine (HA.out _).mono ?_
  rintro e w2 ⟨rfl, hb⟩
  have hk_new : Keeps (w.heap.size + 2) [(⟨w.heap.size, 0, none⟩, .int .i64 t), (⟨w.heap.size, 1, none⟩, .bool c), (⟨w.heap.size, 2, none⟩, .int .i64 s), (⟨w.heap.size, 3, none⟩, .int .i64 v), (⟨w.heap.size + 1, 0, none⟩, .int .i64 3), (⟨w.heap.size + 1, 1, none⟩, .int .i64 a0), (⟨w.heap.size + 1, 2, none⟩, .int .i64 2), (⟨w.heap.size + 1, 3, none⟩, .int .i64 a1)] w w2 := by
    refine Keeps.below ⟨?_, by first | (simp; done) | (simp; omega) | omega, by first | (simp [List.forall_mem_cons]; done) | (simp [List.forall_mem_cons]; omega), by simp [cellsAre_cons, cellsAre_nil, go_sem, World.cell?_alloc_past, *]⟩ hb
    (repeat (first | with_reducible apply Below.drew | with_reducible refine Below.setCell ?_ (by first | exact Nat.le_refl _ | (simp; done) | (simp; omega) | omega) _ | with_reducible refine Below.alloc ?_ (by first | exact Nat.le_refl _ | (simp; done) | (simp; omega) | omega) _ | with_reducible exact Below.refl _ _ | with_reducible assumption))
  clear hb
  try clear hk
  have hk := hk_new
  clear hk_new
  clear h1 h2 h3 h4
  have hk' := hk
  obtain ⟨h1, h2, h3, h4⟩ := hk'
  simp only [cellsAre_cons, cellsAre_nil, and_true] at h4
  have lta_0 : w.heap.size < w2.heap.size := by omega
  have nea_0 : ¬ w.heap.size = w2.heap.size := by omega
  have nfa_0 : ¬ w2.heap.size = w.heap.size := by omega
  have lta_1 : w.heap.size + 1 < w2.heap.size := by omega
  have nea_1 : ¬ w.heap.size + 1 = w2.heap.size := by omega
  have nfa_1 : ¬ w2.heap.size = w.heap.size + 1 := by omega
  have h2a := h2
  go_wp2_with fail
  refine (HB.out _).mono ?_
  rintro e w3 ⟨rfl, hb⟩
  have hk_new : Keeps (w2.heap.size + 1) [(⟨w2.heap.size, 0, none⟩, .int .i64 pt), (⟨w2.heap.size, 1, none⟩, .bool pc), (⟨w2.heap.size, 2, none⟩, .int .i64 ps), (⟨w2.heap.size, 3, none⟩, .int .i64 (v + 1)), (⟨w.heap.size, 0, none⟩, .int .i64 t), (⟨w.heap.size, 1, none⟩, .bool c), (⟨w.heap.size, 2, none⟩, .int .i64 s), (⟨w.heap.size, 3, none⟩, .int .i64 v), (⟨w.heap.size + 1, 0, none⟩, .int .i64 3), (⟨w.heap.size + 1, 1, none⟩, .int .i64 a0), (⟨w.heap.size + 1, 2, none⟩, .int .i64 2), (⟨w.heap.size + 1, 3, none⟩, .int .i64 a1)] w w3 := by
    refine Keeps.below ⟨?_, by first | (simp; done) | (simp; omega) | omega, by first | (simp [List.forall_mem_cons]; done) | (simp [List.forall_mem_cons]; omega), by simp [cellsAre_cons, cellsAre_nil, go_sem, World.cell?_alloc_past, *]⟩ hb
    (repeat (first | with_reducible apply Below.drew | with_reducible refine Below.setCell ?_ (by first | exact Nat.le_refl _ | (simp; done) | (simp; omega) | omega) _ | with_reducible refine Below.alloc ?_ (by first | exact Nat.le_refl _ | (simp; done) | (simp; omega) | omega) _ | with_reducible exact Below.refl _ _ | with_reducible assumption))
  clear hb
  try clear hk
  have hk := hk_new
  clear hk_new
  clear h1 h2 h3 h4
  have hk' := hk
  obtain ⟨h1, h2, h3, h4⟩ := hk'
  simp only [cellsAre_cons, cellsAre_nil, and_true] at h4
  clear lta_0 lta_1
  generalize w2.heap.size = b0 at *
  have ltb_0 : w.heap.size < w3.heap.size := by omega
  have neb_0 : ¬ w.heap.size = w3.heap.size := by omega
  have nfb_0 : ¬ w3.heap.size = w.heap.size := by omega
  have ltb_1 : w.heap.size + 1 < w3.heap.size := by omega
  have neb_1 : ¬ w.heap.size + 1 = w3.heap.size := by omega
  have nfb_1 : ¬ w3.heap.size = w.heap.size + 1 := by omega
  have ltb_2 : b0 < w3.heap.size := by omega
  have neb_2 : ¬ b0 = w3.heap.size := by omega
  have nfb_2 : ¬ w3.heap.size = b0 := by omega
  have h2b := h2
  go_wp2_with fail
  refine (HC.out _).mono ?_
  rintro e w4 ⟨rfl, hb⟩
  have hk_new : Keeps (w3.heap.size + 1) [(⟨w3.heap.size, 0, none⟩, .int .i64 qt), (⟨w3.heap.size, 1, none⟩, .bool qc), (⟨w3.heap.size, 2, none⟩, .int .i64 qs), (⟨w3.heap.size, 3, none⟩, .int .i64 (v + 1 + 1)), (⟨b0, 0, none⟩, .int .i64 pt), (⟨b0, 1, none⟩, .bool pc), (⟨b0, 2, none⟩, .int .i64 ps), (⟨b0, 3, none⟩, .int .i64 (v + 1)), (⟨w.heap.size, 0, none⟩, .int .i64 t), (⟨w.heap.size, 1, none⟩, .bool c), (⟨w.heap.size, 2, none⟩, .int .i64 s), (⟨w.heap.size, 3, none⟩, .int .i64 v), (⟨w.heap.size + 1, 0, none⟩, .int .i64 3), (⟨w.heap.size + 1, 1, none⟩, .int .i64 a0), (⟨w.heap.size + 1, 2, none⟩, .int .i64 2), (⟨w.heap.size + 1, 3, none⟩, .int .i64 a1)] w w4 := by
    refine Keeps.below ⟨?_, by first | (simp; done) | (simp; omega) | omega, by first | (simp [List.forall_mem_cons]; done) | (simp [List.forall_mem_cons]; omega), by simp [cellsAre_cons, cellsAre_nil, go_sem, World.cell?_alloc_past, *]⟩ hb
    (repeat (first | with_reducible apply Below.drew | with_reducible refine Below.setCell ?_ (by first | exact Nat.le_refl _ | (simp; done) | (simp; omega) | omega) _ | with_reducible refine Below.alloc ?_ (by first | exact Nat.le_refl _ | (simp; done) | (simp; omega) | omega) _ | with_reducible exact Below.refl _ _ | with_reducible assumption))
  clear hb
  try clear hk
  have hk := hk_new
  clear hk_new
  clear h1 h2 h3 h4
  have hk' := hk
  obtain ⟨h1, h2, h3, h4⟩ := hk'
  simp only [cellsAre_cons, cellsAre_nil, and_true] at h4
  clear ltb_0 ltb_1 ltb_2
  generalize w3.heap.size = b1 at *
  have ltc_0 : w.heap.size < w4.heap.size := by omega
  have nec_0 : ¬ w.heap.size = w4.heap.size := by omega
  have nfc_0 : ¬ w4.heap.size = w.heap.size := by omega
  have ltc_1 : w.heap.size + 1 < w4.heap.size := by omega
  have nec_1 : ¬ w.heap.size + 1 = w4.heap.size := by omega
  have nfc_1 : ¬ w4.heap.size = w.heap.size + 1 := by omega
  have ltc_2 : b0 < w4.heap.size := by omega
  have nec_2 : ¬ b0 = w4.heap.size := by omega
  have nfc_2 : ¬ w4.heap.size = b0 := by omega
  have ltc_3 : b1 < w4.heap.size := by omega
  have nec_3 : ¬ b1 = w4.heap.size := by omega
  have nfc_3 : ¬ w4.heap.size = b1 := by omega
  have h2c := h2
  go_wp2_with fail
  refine (HD.out _).mono ?_
  rintro e w5 ⟨rfl, hb⟩
  have hk_new : Keeps (w4.heap.size + 1) [(⟨w4.heap.size, 0, none⟩, .int .i64 t), (⟨w4.heap.size, 1, none⟩, .bool c), (⟨w4.heap.size, 2, none⟩, .int .i64 s), (⟨w4.heap.size, 3, none⟩, .int .i64 v), (⟨b1, 0, none⟩, .int .i64 qt), (⟨b1, 1, none⟩, .bool qc), (⟨b1, 2, none⟩, .int .i64 qs), (⟨b1, 3, none⟩, .int .i64 (v + 1 + 1)), (⟨b0, 0, none⟩, .int .i64 pt), (⟨b0, 1, none⟩, .bool pc), (⟨b0, 2, none⟩, .int .i64 ps), (⟨b0, 3, none⟩, .int .i64 (v + 1)), (⟨w.heap.size, 0, none⟩, .int .i64 t), (⟨w.heap.size, 1, none⟩, .bool c), (⟨w.heap.size, 2, none⟩, .int .i64 s), (⟨w.heap.size, 3, none⟩, .int .i64 v), (⟨w.heap.size + 1, 0, none⟩, .int .i64 3), (⟨w.heap.size + 1, 1, none⟩, .int .i64 a0), (⟨w.heap.size + 1, 2, none⟩, .int .i64 2), (⟨w.heap.size + 1, 3, none⟩, .int .i64 a1)] w w5 := by
    refine Keeps.below ⟨?_, by first | (simp; done) | (simp; omega) | omega, by first | (simp [List.forall_mem_cons]; done) | (simp [List.forall_mem_cons]; omega), by simp [cellsAre_cons, cellsAre_nil, go_sem, World.cell?_alloc_past, *]⟩ hb
    (repeat (first | with_reducible apply Below.drew | with_reducible refine Below.setCell ?_ (by first | exact Nat.le_refl _ | (simp; done) | (simp; omega) | omega) _ | with_reducible refine Below.alloc ?_ (by first | exact Nat.le_refl _ | (simp; done) | (simp; omega) | omega) _ | with_reducible exact Below.refl _ _ | with_reducible assumption))
  clear hb
  try clear hk
  have hk := hk_new
  clear hk_new
  clear h1 h2 h3 h4
  have hk' := hk
  obtain ⟨h1, h2, h3, h4⟩ := hk'
  simp only [cellsAre_cons, cellsAre_nil, and_true] at h4
  clear ltc_0 ltc_1 ltc_2 ltc_3
  generalize w4.heap.size = b2 at *
  have ltz_0 : w.heap.size < w5.heap.size := by omega
  have nez_0 : ¬ w.heap.size = w5.heap.size := by omega
  have nfz_0 : ¬ w5.heap.size = w.heap.size := by omega
  have ltz_1 : w.heap.size + 1 < w5.heap.size := by omega
  have nez_1 : ¬ w.heap.size + 1 = w5.heap.size := by omega
  have nfz_1 : ¬ w5.heap.size = w.heap.size + 1 := by omega
  have ltz_2 : b0 < w5.heap.size := by omega
  have nez_2 : ¬ b0 = w5.heap.size := by omega
  have nfz_2 : ¬ w5.heap.size = b0 := by omega
  have ltz_3 : b1 < w5.heap.size := by omega
  have nez_3 : ¬ b1 = w5.heap.size := by omega
  have nfz_3 : ¬ w5.heap.size = b1 := by omega
  have ltz_4 : b2 < w5.heap.size := by omega
  have nez_4 : ¬ b2 = w5.heap.size := by omega
  have nfz_4 : ¬ w5.heap.size = b2 := by omega
  have h2z := h2
  go_wp2_with fail
  refine (works_any _).mono ?_
  rintro e w9 ⟨rfl, hb⟩
  have hbl : Below w.heap.size w w9 := by
    refine Below.trans ?_ (hb.mono (by simp; omega))
    (repeat (first | with_reducible apply Below.drew | with_reducible refine Below.setCell ?_ (by first | exact Nat.le_refl _ | (simp; done) | (simp; omega) | omega) _ | with_reducible refine Below.alloc ?_ (by first | exact Nat.le_refl _ | (simp; done) | (simp; omega) | omega) _ | with_reducible exact Below.refl _ _ | with_reducible assumption))
  go_wp2_with fail
  go_ret
  exact ⟨rfl, hbl⟩

set_option maxHeartbeats 8000000 in
theorem either_d32 (t s v a0 a1 : Int) (c : Bool) (pt ps : Int) (pc : Bool) (qt qs : Int) (qc : Bool) (rt rs : Int) (rc : Bool) (w : World) (hm : mayS ⟨t, c, s, v⟩ = true) (HA : Hid (∀ w, Calls Try.prog 28 #[.agg #[.int .i64 t, .bool c, .int .i64 s, .int .i64 v], .agg #[.int .i64 3, .int .i64 a0]] w fun e w' => e = .returned (.agg #[.int .i64 pt, .bool pc, .int .i64 ps, .int .i64 (v + 1)]) ∧ Below w.heap.size w w')) (HB : Hid (∀ w, Calls Try.prog 28 #[.agg #[.int .i64 pt, .bool pc, .int .i64 ps, .int .i64 (v + 1)], .agg #[.int .i64 2, .int .i64 a1]] w fun e w' => e = .returned (.agg #[.int .i64 qt, .bool qc, .int .i64 qs, .int .i64 (v + 1 + 1)]) ∧ Below w.heap.size w w')) (HC : Hid (∀ w, Calls Try.prog 28 #[.agg #[.int .i64 t, .bool c, .int .i64 s, .int .i64 v], .agg #[.int .i64 2, .int .i64 a1]] w fun e w' => e = .returned (.agg #[.int .i64 rt, .bool rc, .int .i64 rs, .int .i64 (v + 1)]) ∧ Below w.heap.size w w')) (HD : Hid (∀ w, Calls Try.prog 28 #[.agg #[.int .i64 rt, .bool rc, .int .i64 rs, .int .i64 (v + 1)], .agg #[.int .i64 3, .int .i64 a0]] w fun e w' => e = .returned (.agg #[.int .i64 rt, .bool rc, .int .i64 rs, .int .i64 (v + 1)]) ∧ Below w.heap.size w w')) (hn : (v + 1 == v) = false) (hn2 : (v + 1 + 1 == v + 1) = false) :
    Calls Try.prog 12 #[.agg #[.int .i64 t, .bool c, .int .i64 s, .int .i64 v], .agg #[.int .i64 3, .int .i64 a0, .int .i64 2, .int .i64 a1]] w fun e w' => e = .returned (.bool true) ∧ Below w.heap.size w w' := by
  go_enter Try.func12, Try.ntmps12
  go_wp2_with fail
  refine (law_may _ _ _ _ _).mono ?_
  rintro e w1 ⟨rfl, hb⟩
  have hk_new : Keeps (w.heap.size + 2) [(⟨w.heap.size, 0, none⟩, .int .i64 t), (⟨w.heap.size, 1, none⟩, .bool c), (⟨w.heap.size, 2, none⟩, .int .i64 s), (⟨w.heap.size, 3, none⟩, .int .i64 v), (⟨w.heap.size + 1, 0, none⟩, .int .i64 3), (⟨w.heap.size + 1, 1, none⟩, .int .i64 a0), (⟨w.heap.size + 1, 2, none⟩, .int .i64 2), (⟨w.heap.size + 1, 3, none⟩, .int .i64 a1)] w w1 := by
    refine Keeps.below ⟨?_, by first | (simp; done) | (simp; omega) | omega, by first | (simp [List.forall_mem_cons]; done) | (simp [List.forall_mem_cons]; omega), by simp [cellsAre_cons, cellsAre_nil, go_sem, World.cell?_alloc_past, *]⟩ hb
    (repeat (first | with_reducible apply Below.drew | with_reducible refine Below.setCell ?_ (by first | exact Nat.le_refl _ | (simp; done) | (simp; omega) | omega) _ | with_reducible refine Below.alloc ?_ (by first | exact Nat.le_refl _ | (simp; done) | (simp; omega) | omega) _ | with_reducible exact Below.refl _ _ | with_reducible assumption))
  clear hb
  try clear hk
  have hk := hk_new
  clear hk_new
  have hk' := hk
  obtain ⟨h1, h2, h3, h4⟩ := hk'
  simp only [cellsAre_cons, cellsAre_nil, and_true] at h4
  go_wp2_with fail
  refine (HA.out _).mono ?_
  rintro e w2 ⟨rfl, hb⟩
  have hk_new : Keeps (w.heap.size + 2) [(⟨w.heap.size, 0, none⟩, .int .i64 t), (⟨w.heap.size, 1, none⟩, .bool c), (⟨w.heap.size, 2, none⟩, .int .i64 s), (⟨w.heap.size, 3, none⟩, .int .i64 v), (⟨w.heap.size + 1, 0, none⟩, .int .i64 3), (⟨w.heap.size + 1, 1, none⟩, .int .i64 a0), (⟨w.heap.size + 1, 2, none⟩, .int .i64 2), (⟨w.heap.size + 1, 3, none⟩, .int .i64 a1)] w w2 := by
    refine Keeps.below ⟨?_, by first | (simp; done) | (simp; omega) | omega, by first | (simp [List.forall_mem_cons]; done) | (simp [List.forall_mem_cons]; omega), by simp [cellsAre_cons, cellsAre_nil, go_sem, World.cell?_alloc_past, *]⟩ hb
    (repeat (first | with_reducible apply Below.drew | with_reducible refine Below.setCell ?_ (by first | exact Nat.le_refl _ | (simp; done) | (simp; omega) | omega) _ | with_reducible refine Below.alloc ?_ (by first | exact Nat.le_refl _ | (simp; done) | (simp; omega) | omega) _ | with_reducible exact Below.refl _ _ | with_reducible assumption))
  clear hb
  try clear hk
  have hk := hk_new
  clear hk_new
  clear h1 h2 h3 h4
  have hk' := hk
  obtain ⟨h1, h2, h3, h4⟩ := hk'
  simp only [cellsAre_cons, cellsAre_nil, and_true] at h4
  have lta_0 : w.heap.size < w2.heap.size := by omega
  have nea_0 : ¬ w.heap.size = w2.heap.size := by omega
  have nfa_0 : ¬ w2.heap.size = w.heap.size := by omega
  have lta_1 : w.heap.size + 1 < w2.heap.size := by omega
  have nea_1 : ¬ w.heap.size + 1 = w2.heap.size := by omega
  have nfa_1 : ¬ w2.heap.size = w.heap.size + 1 := by omega
  have h2a := h2
  go_wp2_with fail
  refine (HB.out _).mono ?_
  rintro e w3 ⟨rfl, hb⟩
  have hk_new : Keeps (w2.heap.size + 1) [(⟨w2.heap.size, 0, none⟩, .int .i64 pt), (⟨w2.heap.size, 1, none⟩, .bool pc), (⟨w2.heap.size, 2, none⟩, .int .i64 ps), (⟨w2.heap.size, 3, none⟩, .int .i64 (v + 1)), (⟨w.heap.size, 0, none⟩, .int .i64 t), (⟨w.heap.size, 1, none⟩, .bool c), (⟨w.heap.size, 2, none⟩, .int .i64 s), (⟨w.heap.size, 3, none⟩, .int .i64 v), (⟨w.heap.size + 1, 0, none⟩, .int .i64 3), (⟨w.heap.size + 1, 1, none⟩, .int .i64 a0), (⟨w.heap.size + 1, 2, none⟩, .int .i64 2), (⟨w.heap.size + 1, 3, none⟩, .int .i64 a1)] w w3 := by
    refine Keeps.below ⟨?_, by first | (simp; done) | (simp; omega) | omega, by first | (simp [List.forall_mem_cons]; done) | (simp [List.forall_mem_cons]; omega), by simp [cellsAre_cons, cellsAre_nil, go_sem, World.cell?_alloc_past, *]⟩ hb
    (repeat (first | with_reducible apply Below.drew | with_reducible refine Below.setCell ?_ (by first | exact Nat.le_refl _ | (simp; done) | (simp; omega) | omega) _ | with_reducible refine Below.alloc ?_ (by first | exact Nat.le_refl _ | (simp; done) | (simp; omega) | omega) _ | with_reducible exact Below.refl _ _ | with_reducible assumption))
  clear hb
  try clear hk
  have hk := hk_new
  clear hk_new
  clear h1 h2 h3 h4
  have hk' := hk
  obtain ⟨h1, h2, h3, h4⟩ := hk'
  simp only [cellsAre_cons, cellsAre_nil, and_true] at h4
  clear lta_0 lta_1
  generalize w2.heap.size = b0 at *
  have ltb_0 : w.heap.size < w3.heap.size := by omega
  have neb_0 : ¬ w.heap.size = w3.heap.size := by omega
  have nfb_0 : ¬ w3.heap.size = w.heap.size := by omega
  have ltb_1 : w.heap.size + 1 < w3.heap.size := by omega
  have neb_1 : ¬ w.heap.size + 1 = w3.heap.size := by omega
  have nfb_1 : ¬ w3.heap.size = w.heap.size + 1 := by omega
  have ltb_2 : b0 < w3.heap.size := by omega
  have neb_2 : ¬ b0 = w3.heap.size := by omega
  have nfb_2 : ¬ w3.heap.size = b0 := by omega
  have h2b := h2
  go_wp2_with fail
  refine (HC.out _).mono ?_
  rintro e w4 ⟨rfl, hb⟩
  have hk_new : Keeps (w3.heap.size + 1) [(⟨w3.heap.size, 0, none⟩, .int .i64 qt), (⟨w3.heap.size, 1, none⟩, .bool qc), (⟨w3.heap.size, 2, none⟩, .int .i64 qs), (⟨w3.heap.size, 3, none⟩, .int .i64 (v + 1 + 1)), (⟨b0, 0, none⟩, .int .i64 pt), (⟨b0, 1, none⟩, .bool pc), (⟨b0, 2, none⟩, .int .i64 ps), (⟨b0, 3, none⟩, .int .i64 (v + 1)), (⟨w.heap.size, 0, none⟩, .int .i64 t), (⟨w.heap.size, 1, none⟩, .bool c), (⟨w.heap.size, 2, none⟩, .int .i64 s), (⟨w.heap.size, 3, none⟩, .int .i64 v), (⟨w.heap.size + 1, 0, none⟩, .int .i64 3), (⟨w.heap.size + 1, 1, none⟩, .int .i64 a0), (⟨w.heap.size + 1, 2, none⟩, .int .i64 2), (⟨w.heap.size + 1, 3, none⟩, .int .i64 a1)] w w4 := by
    refine Keeps.below ⟨?_, by first | (simp; done) | (simp; omega) | omega, by first | (simp [List.forall_mem_cons]; done) | (simp [List.forall_mem_cons]; omega), by simp [cellsAre_cons, cellsAre_nil, go_sem, World.cell?_alloc_past, *]⟩ hb
    (repeat (first | with_reducible apply Below.drew | with_reducible refine Below.setCell ?_ (by first | exact Nat.le_refl _ | (simp; done) | (simp; omega) | omega) _ | with_reducible refine Below.alloc ?_ (by first | exact Nat.le_refl _ | (simp; done) | (simp; omega) | omega) _ | with_reducible exact Below.refl _ _ | with_reducible assumption))
  clear hb
  try clear hk
  have hk := hk_new
  clear hk_new
  clear h1 h2 h3 h4
  have hk' := hk
  obtain ⟨h1, h2, h3, h4⟩ := hk'
  simp only [cellsAre_cons, cellsAre_nil, and_true] at h4
  clear ltb_0 ltb_1 ltb_2
  generalize w3.heap.size = b1 at *
  have ltc_0 : w.heap.size < w4.heap.size := by omega
  have nec_0 : ¬ w.heap.size = w4.heap.size := by omega
  have nfc_0 : ¬ w4.heap.size = w.heap.size := by omega
  have ltc_1 : w.heap.size + 1 < w4.heap.size := by omega
  have nec_1 : ¬ w.heap.size + 1 = w4.heap.size := by omega
  have nfc_1 : ¬ w4.heap.size = w.heap.size + 1 := by omega
  have ltc_2 : b0 < w4.heap.size := by omega
  have nec_2 : ¬ b0 = w4.heap.size := by omega
  have nfc_2 : ¬ w4.heap.size = b0 := by omega
  have ltc_3 : b1 < w4.heap.size := by omega
  have nec_3 : ¬ b1 = w4.heap.size := by omega
  have nfc_3 : ¬ w4.heap.size = b1 := by omega
  have h2c := h2
  go_wp2_with fail
  refine (HD.out _).mono ?_
  rintro e w5 ⟨rfl, hb⟩
  have hk_new : Keeps (w4.heap.size + 1) [(⟨w4.heap.size, 0, none⟩, .int .i64 rt), (⟨w4.heap.size, 1, none⟩, .bool rc), (⟨w4.heap.size, 2, none⟩, .int .i64 rs), (⟨w4.heap.size, 3, none⟩, .int .i64 (v + 1)), (⟨b1, 0, none⟩, .int .i64 qt), (⟨b1, 1, none⟩, .bool qc), (⟨b1, 2, none⟩, .int .i64 qs), (⟨b1, 3, none⟩, .int .i64 (v + 1 + 1)), (⟨b0, 0, none⟩, .int .i64 pt), (⟨b0, 1, none⟩, .bool pc), (⟨b0, 2, none⟩, .int .i64 ps), (⟨b0, 3, none⟩, .int .i64 (v + 1)), (⟨w.heap.size, 0, none⟩, .int .i64 t), (⟨w.heap.size, 1, none⟩, .bool c), (⟨w.heap.size, 2, none⟩, .int .i64 s), (⟨w.heap.size, 3, none⟩, .int .i64 v), (⟨w.heap.size + 1, 0, none⟩, .int .i64 3), (⟨w.heap.size + 1, 1, none⟩, .int .i64 a0), (⟨w.heap.size + 1, 2, none⟩, .int .i64 2), (⟨w.heap.size + 1, 3, none⟩, .int .i64 a1)] w w5 := by
    refine Keeps.below ⟨?_, by first | (simp; done) | (simp; omega) | omega, by first | (simp [List.forall_mem_cons]; done) | (simp [List.forall_mem_cons]; omega), by simp [cellsAre_cons, cellsAre_nil, go_sem, World.cell?_alloc_past, *]⟩ hb
    (repeat (first | with_reducible apply Below.drew | with_reducible refine Below.setCell ?_ (by first | exact Nat.le_refl _ | (simp; done) | (simp; omega) | omega) _ | with_reducible refine Below.alloc ?_ (by first | exact Nat.le_refl _ | (simp; done) | (simp; omega) | omega) _ | with_reducible exact Below.refl _ _ | with_reducible assumption))
  clear hb
  try clear hk
  have hk := hk_new
  clear hk_new
  clear h1 h2 h3 h4
  have hk' := hk
  obtain ⟨h1, h2, h3, h4⟩ := hk'
  simp only [cellsAre_cons, cellsAre_nil, and_true] at h4
  clear ltc_0 ltc_1 ltc_2 ltc_3
  generalize w4.heap.size = b2 at *
  have ltz_0 : w.heap.size < w5.heap.size := by omega
  have nez_0 : ¬ w.heap.size = w5.heap.size := by omega
  have nfz_0 : ¬ w5.heap.size = w.heap.size := by omega
  have ltz_1 : w.heap.size + 1 < w5.heap.size := by omega
  have nez_1 : ¬ w.heap.size + 1 = w5.heap.size := by omega
  have nfz_1 : ¬ w5.heap.size = w.heap.size + 1 := by omega
  have ltz_2 : b0 < w5.heap.size := by omega
  have nez_2 : ¬ b0 = w5.heap.size := by omega
  have nfz_2 : ¬ w5.heap.size = b0 := by omega
  have ltz_3 : b1 < w5.heap.size := by omega
  have nez_3 : ¬ b1 = w5.heap.size := by omega
  have nfz_3 : ¬ w5.heap.size = b1 := by omega
  have ltz_4 : b2 < w5.heap.size := by omega
  have nez_4 : ¬ b2 = w5.heap.size := by omega
  have nfz_4 : ¬ w5.heap.size = b2 := by omega
  have h2z := h2
  go_wp2_with fail
  refine (works_any _).mono ?_
  rintro e w9 ⟨rfl, hb⟩
  have hbl : Below w.heap.size w w9 := by
    refine Below.trans ?_ (hb.mono (by simp; omega))
    (repeat (first | with_reducible apply Below.drew | with_reducible refine Below.setCell ?_ (by first | exact Nat.le_refl _ | (simp; done) | (simp; omega) | omega) _ | with_reducible refine Below.alloc ?_ (by first | exact Nat.le_refl _ | (simp; done) | (simp; omega) | omega) _ | with_reducible exact Below.refl _ _ | with_reducible assumption))
  go_wp2_with fail
  go_ret
  exact ⟨rfl, hbl⟩

set_option maxHeartbeats 8000000 in
theorem either_e32 (t s v a0 a1 : Int) (c : Bool)  (w : World) (hm : mayS ⟨t, c, s, v⟩ = true) (HA : Hid (∀ w, Calls Try.prog 28 #[.agg #[.int .i64 t, .bool c, .int .i64 s, .int .i64 v], .agg #[.int .i64 3, .int .i64 a0]] w fun e w' => e = .returned (.agg #[.int .i64 t, .bool c, .int .i64 (s - a0), .int .i64 (v + 1)]) ∧ Below w.heap.size w w')) (HB : Hid (∀ w, Calls Try.prog 28 #[.agg #[.int .i64 t, .bool c, .int .i64 (s - a0), .int .i64 (v + 1)], .agg #[.int .i64 2, .int .i64 a1]] w fun e w' => e = .returned (.agg #[.int .i64 t, .bool c, .int .i64 (s - a0 + a1), .int .i64 (v + 1 + 1)]) ∧ Below w.heap.size w w')) (HC : Hid (∀ w, Calls Try.prog 28 #[.agg #[.int .i64 t, .bool c, .int .i64 s, .int .i64 v], .agg #[.int .i64 2, .int .i64 a1]] w fun e w' => e = .returned (.agg #[.int .i64 t, .bool c, .int .i64 (s + a1), .int .i64 (v + 1)]) ∧ Below w.heap.size w w')) (HD : Hid (∀ w, Calls Try.prog 28 #[.agg #[.int .i64 t, .bool c, .int .i64 (s + a1), .int .i64 (v + 1)], .agg #[.int .i64 3, .int .i64 a0]] w fun e w' => e = .returned (.agg #[.int .i64 t, .bool c, .int .i64 (s + a1 - a0), .int .i64 (v + 1 + 1)]) ∧ Below w.heap.size w w')) (hn : (v + 1 == v) = false) (hn2 : (v + 1 + 1 == v + 1) = false) (q1 : -1099511627776 ≤ s - a0) (q2 : s - a0 ≤ 1099511627776) (q3 : -1099511627776 ≤ s - a0 + a1) (q4 : s - a0 + a1 ≤ 1099511627776) (q5 : s - a0 + a1 == s + a1 - a0) :
    Calls Try.prog 12 #[.agg #[.int .i64 t, .bool c, .int .i64 s, .int .i64 v], .agg #[.int .i64 3, .int .i64 a0, .int .i64 2, .int .i64 a1]] w fun e w' => e = .returned (.bool true) ∧ Below w.heap.size w w' := by
  go_enter Try.func12, Try.ntmps12
  go_wp2_with fail
  refine (law_may _ _ _ _ _).mono ?_
  rintro e w1 ⟨rfl, hb⟩
  have hk_new : Keeps (w.heap.size + 2) [(⟨w.heap.size, 0, none⟩, .int .i64 t), (⟨w.heap.size, 1, none⟩, .bool c), (⟨w.heap.size, 2, none⟩, .int .i64 s), (⟨w.heap.size, 3, none⟩, .int .i64 v), (⟨w.heap.size + 1, 0, none⟩, .int .i64 3), (⟨w.heap.size + 1, 1, none⟩, .int .i64 a0), (⟨w.heap.size + 1, 2, none⟩, .int .i64 2), (⟨w.heap.size + 1, 3, none⟩, .int .i64 a1)] w w1 := by
    refine Keeps.below ⟨?_, by first | (simp; done) | (simp; omega) | omega, by first | (simp [List.forall_mem_cons]; done) | (simp [List.forall_mem_cons]; omega), by simp [cellsAre_cons, cellsAre_nil, go_sem, World.cell?_alloc_past, *]⟩ hb
    (repeat (first | with_reducible apply Below.drew | with_reducible refine Below.setCell ?_ (by first | exact Nat.le_refl _ | (simp; done) | (simp; omega) | omega) _ | with_reducible refine Below.alloc ?_ (by first | exact Nat.le_refl _ | (simp; done) | (simp; omega) | omega) _ | with_reducible exact Below.refl _ _ | with_reducible assumption))
  clear hb
  try clear hk
  have hk := hk_new
  clear hk_new
  have hk' := hk
  obtain ⟨h1, h2, h3, h4⟩ := hk'
  simp only [cellsAre_cons, cellsAre_nil, and_true] at h4
  go_wp2_with fail
  refine (HA.out _).mono ?_
  rintro e w2 ⟨rfl, hb⟩
  have hk_new : Keeps (w.heap.size + 2) [(⟨w.heap.size, 0, none⟩, .int .i64 t), (⟨w.heap.size, 1, none⟩, .bool c), (⟨w.heap.size, 2, none⟩, .int .i64 s), (⟨w.heap.size, 3, none⟩, .int .i64 v), (⟨w.heap.size + 1, 0, none⟩, .int .i64 3), (⟨w.heap.size + 1, 1, none⟩, .int .i64 a0), (⟨w.heap.size + 1, 2, none⟩, .int .i64 2), (⟨w.heap.size + 1, 3, none⟩, .int .i64 a1)] w w2 := by
    refine Keeps.below ⟨?_, by first | (simp; done) | (simp; omega) | omega, by first | (simp [List.forall_mem_cons]; done) | (simp [List.forall_mem_cons]; omega), by simp [cellsAre_cons, cellsAre_nil, go_sem, World.cell?_alloc_past, *]⟩ hb
    (repeat (first | with_reducible apply Below.drew | with_reducible refine Below.setCell ?_ (by first | exact Nat.le_refl _ | (simp; done) | (simp; omega) | omega) _ | with_reducible refine Below.alloc ?_ (by first | exact Nat.le_refl _ | (simp; done) | (simp; omega) | omega) _ | with_reducible exact Below.refl _ _ | with_reducible assumption))
  clear hb
  try clear hk
  have hk := hk_new
  clear hk_new
  clear h1 h2 h3 h4
  have hk' := hk
  obtain ⟨h1, h2, h3, h4⟩ := hk'
  simp only [cellsAre_cons, cellsAre_nil, and_true] at h4
  have lta_0 : w.heap.size < w2.heap.size := by omega
  have nea_0 : ¬ w.heap.size = w2.heap.size := by omega
  have nfa_0 : ¬ w2.heap.size = w.heap.size := by omega
  have lta_1 : w.heap.size + 1 < w2.heap.size := by omega
  have nea_1 : ¬ w.heap.size + 1 = w2.heap.size := by omega
  have nfa_1 : ¬ w2.heap.size = w.heap.size + 1 := by omega
  have h2a := h2
  go_wp2_with fail
  refine (HB.out _).mono ?_
  rintro e w3 ⟨rfl, hb⟩
  have hk_new : Keeps (w2.heap.size + 1) [(⟨w2.heap.size, 0, none⟩, .int .i64 t), (⟨w2.heap.size, 1, none⟩, .bool c), (⟨w2.heap.size, 2, none⟩, .int .i64 (s - a0)), (⟨w2.heap.size, 3, none⟩, .int .i64 (v + 1)), (⟨w.heap.size, 0, none⟩, .int .i64 t), (⟨w.heap.size, 1, none⟩, .bool c), (⟨w.heap.size, 2, none⟩, .int .i64 s), (⟨w.heap.size, 3, none⟩, .int .i64 v), (⟨w.heap.size + 1, 0, none⟩, .int .i64 3), (⟨w.heap.size + 1, 1, none⟩, .int .i64 a0), (⟨w.heap.size + 1, 2, none⟩, .int .i64 2), (⟨w.heap.size + 1, 3, none⟩, .int .i64 a1)] w w3 := by
    refine Keeps.below ⟨?_, by first | (simp; done) | (simp; omega) | omega, by first | (simp [List.forall_mem_cons]; done) | (simp [List.forall_mem_cons]; omega), by simp [cellsAre_cons, cellsAre_nil, go_sem, World.cell?_alloc_past, *]⟩ hb
    (repeat (first | with_reducible apply Below.drew | with_reducible refine Below.setCell ?_ (by first | exact Nat.le_refl _ | (simp; done) | (simp; omega) | omega) _ | with_reducible refine Below.alloc ?_ (by first | exact Nat.le_refl _ | (simp; done) | (simp; omega) | omega) _ | with_reducible exact Below.refl _ _ | with_reducible assumption))
  clear hb
  try clear hk
  have hk := hk_new
  clear hk_new
  clear h1 h2 h3 h4
  have hk' := hk
  obtain ⟨h1, h2, h3, h4⟩ := hk'
  simp only [cellsAre_cons, cellsAre_nil, and_true] at h4
  clear lta_0 lta_1
  generalize w2.heap.size = b0 at *
  have ltb_0 : w.heap.size < w3.heap.size := by omega
  have neb_0 : ¬ w.heap.size = w3.heap.size := by omega
  have nfb_0 : ¬ w3.heap.size = w.heap.size := by omega
  have ltb_1 : w.heap.size + 1 < w3.heap.size := by omega
  have neb_1 : ¬ w.heap.size + 1 = w3.heap.size := by omega
  have nfb_1 : ¬ w3.heap.size = w.heap.size + 1 := by omega
  have ltb_2 : b0 < w3.heap.size := by omega
  have neb_2 : ¬ b0 = w3.heap.size := by omega
  have nfb_2 : ¬ w3.heap.size = b0 := by omega
  have h2b := h2
  go_wp2_with fail
  refine (HC.out _).mono ?_
  rintro e w4 ⟨rfl, hb⟩
  have hk_new : Keeps (w3.heap.size + 1) [(⟨w3.heap.size, 0, none⟩, .int .i64 t), (⟨w3.heap.size, 1, none⟩, .bool c), (⟨w3.heap.size, 2, none⟩, .int .i64 (s - a0 + a1)), (⟨w3.heap.size, 3, none⟩, .int .i64 (v + 1 + 1)), (⟨b0, 0, none⟩, .int .i64 t), (⟨b0, 1, none⟩, .bool c), (⟨b0, 2, none⟩, .int .i64 (s - a0)), (⟨b0, 3, none⟩, .int .i64 (v + 1)), (⟨w.heap.size, 0, none⟩, .int .i64 t), (⟨w.heap.size, 1, none⟩, .bool c), (⟨w.heap.size, 2, none⟩, .int .i64 s), (⟨w.heap.size, 3, none⟩, .int .i64 v), (⟨w.heap.size + 1, 0, none⟩, .int .i64 3), (⟨w.heap.size + 1, 1, none⟩, .int .i64 a0), (⟨w.heap.size + 1, 2, none⟩, .int .i64 2), (⟨w.heap.size + 1, 3, none⟩, .int .i64 a1)] w w4 := by
    refine Keeps.below ⟨?_, by first | (simp; done) | (simp; omega) | omega, by first | (simp [List.forall_mem_cons]; done) | (simp [List.forall_mem_cons]; omega), by simp [cellsAre_cons, cellsAre_nil, go_sem, World.cell?_alloc_past, *]⟩ hb
    (repeat (first | with_reducible apply Below.drew | with_reducible refine Below.setCell ?_ (by first | exact Nat.le_refl _ | (simp; done) | (simp; omega) | omega) _ | with_reducible refine Below.alloc ?_ (by first | exact Nat.le_refl _ | (simp; done) | (simp; omega) | omega) _ | with_reducible exact Below.refl _ _ | with_reducible assumption))
  clear hb
  try clear hk
  have hk := hk_new
  clear hk_new
  clear h1 h2 h3 h4
  have hk' := hk
  obtain ⟨h1, h2, h3, h4⟩ := hk'
  simp only [cellsAre_cons, cellsAre_nil, and_true] at h4
  clear ltb_0 ltb_1 ltb_2
  generalize w3.heap.size = b1 at *
  have ltc_0 : w.heap.size < w4.heap.size := by omega
  have nec_0 : ¬ w.heap.size = w4.heap.size := by omega
  have nfc_0 : ¬ w4.heap.size = w.heap.size := by omega
  have ltc_1 : w.heap.size + 1 < w4.heap.size := by omega
  have nec_1 : ¬ w.heap.size + 1 = w4.heap.size := by omega
  have nfc_1 : ¬ w4.heap.size = w.heap.size + 1 := by omega
  have ltc_2 : b0 < w4.heap.size := by omega
  have nec_2 : ¬ b0 = w4.heap.size := by omega
  have nfc_2 : ¬ w4.heap.size = b0 := by omega
  have ltc_3 : b1 < w4.heap.size := by omega
  have nec_3 : ¬ b1 = w4.heap.size := by omega
  have nfc_3 : ¬ w4.heap.size = b1 := by omega
  have h2c := h2
  go_wp2_with fail
  refine (HD.out _).mono ?_
  rintro e w5 ⟨rfl, hb⟩
  have hk_new : Keeps (w4.heap.size + 1) [(⟨w4.heap.size, 0, none⟩, .int .i64 t), (⟨w4.heap.size, 1, none⟩, .bool c), (⟨w4.heap.size, 2, none⟩, .int .i64 (s + a1)), (⟨w4.heap.size, 3, none⟩, .int .i64 (v + 1)), (⟨b1, 0, none⟩, .int .i64 t), (⟨b1, 1, none⟩, .bool c), (⟨b1, 2, none⟩, .int .i64 (s - a0 + a1)), (⟨b1, 3, none⟩, .int .i64 (v + 1 + 1)), (⟨b0, 0, none⟩, .int .i64 t), (⟨b0, 1, none⟩, .bool c), (⟨b0, 2, none⟩, .int .i64 (s - a0)), (⟨b0, 3, none⟩, .int .i64 (v + 1)), (⟨w.heap.size, 0, none⟩, .int .i64 t), (⟨w.heap.size, 1, none⟩, .bool c), (⟨w.heap.size, 2, none⟩, .int .i64 s), (⟨w.heap.size, 3, none⟩, .int .i64 v), (⟨w.heap.size + 1, 0, none⟩, .int .i64 3), (⟨w.heap.size + 1, 1, none⟩, .int .i64 a0), (⟨w.heap.size + 1, 2, none⟩, .int .i64 2), (⟨w.heap.size + 1, 3, none⟩, .int .i64 a1)] w w5 := by
    refine Keeps.below ⟨?_, by first | (simp; done) | (simp; omega) | omega, by first | (simp [List.forall_mem_cons]; done) | (simp [List.forall_mem_cons]; omega), by simp [cellsAre_cons, cellsAre_nil, go_sem, World.cell?_alloc_past, *]⟩ hb
    (repeat (first | with_reducible apply Below.drew | with_reducible refine Below.setCell ?_ (by first | exact Nat.le_refl _ | (simp; done) | (simp; omega) | omega) _ | with_reducible refine Below.alloc ?_ (by first | exact Nat.le_refl _ | (simp; done) | (simp; omega) | omega) _ | with_reducible exact Below.refl _ _ | with_reducible assumption))
  clear hb
  try clear hk
  have hk := hk_new
  clear hk_new
  clear h1 h2 h3 h4
  have hk' := hk
  obtain ⟨h1, h2, h3, h4⟩ := hk'
  simp only [cellsAre_cons, cellsAre_nil, and_true] at h4
  clear ltc_0 ltc_1 ltc_2 ltc_3
  generalize w4.heap.size = b2 at *
  have ltz_0 : w.heap.size < w5.heap.size := by omega
  have nez_0 : ¬ w.heap.size = w5.heap.size := by omega
  have nfz_0 : ¬ w5.heap.size = w.heap.size := by omega
  have ltz_1 : w.heap.size + 1 < w5.heap.size := by omega
  have nez_1 : ¬ w.heap.size + 1 = w5.heap.size := by omega
  have nfz_1 : ¬ w5.heap.size = w.heap.size + 1 := by omega
  have ltz_2 : b0 < w5.heap.size := by omega
  have nez_2 : ¬ b0 = w5.heap.size := by omega
  have nfz_2 : ¬ w5.heap.size = b0 := by omega
  have ltz_3 : b1 < w5.heap.size := by omega
  have nez_3 : ¬ b1 = w5.heap.size := by omega
  have nfz_3 : ¬ w5.heap.size = b1 := by omega
  have ltz_4 : b2 < w5.heap.size := by omega
  have nez_4 : ¬ b2 = w5.heap.size := by omega
  have nfz_4 : ¬ w5.heap.size = b2 := by omega
  have h2z := h2
  go_wp2_with fail
  refine wp_loop_rounds 3 ?_
  rw [rounds_succ]
  go_wp2_with fail
  rw [rounds_succ]
  go_wp2_with fail
  rw [rounds_succ]
  go_wp2_with fail
  refine (works_any _).mono ?_
  rintro e w9 ⟨rfl, hb⟩
  have hbl : Below w.heap.size w w9 := by
    refine Below.trans ?_ (hb.mono (by simp; omega))
    (repeat (first | with_reducible apply Below.drew | with_reducible refine Below.setCell ?_ (by first | exact Nat.le_refl _ | (simp; done) | (simp; omega) | omega) _ | with_reducible refine Below.alloc ?_ (by first | exact Nat.le_refl _ | (simp; done) | (simp; omega) | omega) _ | with_reducible exact Below.refl _ _ | with_reducible assumption))
  go_wp2_with fail
  go_ret
  exact ⟨rfl, hbl⟩

set_option maxHeartbeats 8000000 in
theorem either_a33 (t s v a0 a1 : Int) (c : Bool) (qt qs qv : Int) (qc : Bool)(rt rs rv : Int) (rc : Bool)(ut us uv : Int) (uc : Bool) (w : World) (hm : mayS ⟨t, c, s, v⟩ = true) (HA : Hid (∀ w, Calls Try.prog 28 #[.agg #[.int .i64 t, .bool c, .int .i64 s, .int .i64 v], .agg #[.int .i64 3, .int .i64 a0]] w fun e w' => e = .returned (.agg #[.int .i64 t, .bool c, .int .i64 s, .int .i64 v]) ∧ Below w.heap.size w w')) (HB : Hid (∀ w, Calls Try.prog 28 #[.agg #[.int .i64 t, .bool c, .int .i64 s, .int .i64 v], .agg #[.int .i64 3, .int .i64 a1]] w fun e w' => e = .returned (.agg #[.int .i64 qt, .bool qc, .int .i64 qs, .int .i64 qv]) ∧ Below w.heap.size w w')) (HC : Hid (∀ w, Calls Try.prog 28 #[.agg #[.int .i64 t, .bool c, .int .i64 s, .int .i64 v], .agg #[.int .i64 3, .int .i64 a1]] w fun e w' => e = .returned (.agg #[.int .i64 rt, .bool rc, .int .i64 rs, .int .i64 rv]) ∧ Below w.heap.size w w')) (HD : Hid (∀ w, Calls Try.prog 28 #[.agg #[.int .i64 rt, .bool rc, .int .i64 rs, .int .i64 rv], .agg #[.int .i64 3, .int .i64 a0]] w fun e w' => e = .returned (.agg #[.int .i64 ut, .bool uc, .int .i64 us, .int .i64 uv]) ∧ Below w.heap.size w w'))  :
    Calls Try.prog 12 #[.agg #[.int .i64 t, .bool c, .int .i64 s, .int .i64 v], .agg #[.int .i64 3, .int .i64 a0, .int .i64 3, .int .i64 a1]] w fun e w' => e = .returned (.bool true) ∧ Below w.heap.size w w' := by
  go_enter Try.func12, Try.ntmps12
  go_wp2_with fail
  refine (law_may _ _ _ _ _).mono ?_
  rintro e w1 ⟨rfl, hb⟩
  have hk_new : Keeps (w.heap.size + 2) [(⟨w.heap.size, 0, none⟩, .int .i64 t), (⟨w.heap.size, 1, none⟩, .bool c), (⟨w.heap.size, 2, none⟩, .int .i64 s), (⟨w.heap.size, 3, none⟩, .int .i64 v), (⟨w.heap.size + 1, 0, none⟩, .int .i64 3), (⟨w.heap.size + 1, 1, none⟩, .int .i64 a0), (⟨w.heap.size + 1, 2, none⟩, .int .i64 3), (⟨w.heap.size + 1, 3, none⟩, .int .i64 a1)] w w1 := by
    refine Keeps.below ⟨?_, by first | (simp; done) | (simp; omega) | omega, by first | (simp [List.forall_mem_cons]; done) | (simp [List.forall_mem_cons]; omega), by simp [cellsAre_cons, cellsAre_nil, go_sem, World.cell?_alloc_past, *]⟩ hb
    (repeat (first | with_reducible apply Below.drew | with_reducible refine Below.setCell ?_ (by first | exact Nat.le_refl _ | (simp; done) | (simp; omega) | omega) _ | with_reducible refine Below.alloc ?_ (by first | exact Nat.le_refl _ | (simp; done) | (simp; omega) | omega) _ | with_reducible exact Below.refl _ _ | with_reducible assumption))
  clear hb
  try clear hk
  have hk := hk_new
  clear hk_new
  have hk' := hk
  obtain ⟨h1, h2, h3, h4⟩ := hk'
  simp only [cellsAre_cons, cellsAre_nil, and_true] at h4
  go_wp2_with fail
  refine (HA.out _).mono ?_
  rintro e w2 ⟨rfl, hb⟩
  have hk_new : Keeps (w.heap.size + 2) [(⟨w.heap.size, 0, none⟩, .int .i64 t), (⟨w.heap.size, 1, none⟩, .bool c), (⟨w.heap.size, 2, none⟩, .int .i64 s), (⟨w.heap.size, 3, none⟩, .int .i64 v), (⟨w.heap.size + 1, 0, none⟩, .int .i64 3), (⟨w.heap.size + 1, 1, none⟩, .int .i64 a0), (⟨w.heap.size + 1, 2, none⟩, .int .i64 3), (⟨w.heap.size + 1, 3, none⟩, .int .i64 a1)] w w2 := by
    refine Keeps.below ⟨?_, by first | (simp; done) | (simp; omega) | omega, by first | (simp [List.forall_mem_cons]; done) | (simp [List.forall_mem_cons]; omega), by simp [cellsAre_cons, cellsAre_nil, go_sem, World.cell?_alloc_past, *]⟩ hb
    (repeat (first | with_reducible apply Below.drew | with_reducible refine Below.setCell ?_ (by first | exact Nat.le_refl _ | (simp; done) | (simp; omega) | omega) _ | with_reducible refine Below.alloc ?_ (by first | exact Nat.le_refl _ | (simp; done) | (simp; omega) | omega) _ | with_reducible exact Below.refl _ _ | with_reducible assumption))
  clear hb
  try clear hk
  have hk := hk_new
  clear hk_new
  clear h1 h2 h3 h4
  have hk' := hk
  obtain ⟨h1, h2, h3, h4⟩ := hk'
  simp only [cellsAre_cons, cellsAre_nil, and_true] at h4
  have lta_0 : w.heap.size < w2.heap.size := by omega
  have nea_0 : ¬ w.heap.size = w2.heap.size := by omega
  have nfa_0 : ¬ w2.heap.size = w.heap.size := by omega
  have lta_1 : w.heap.size + 1 < w2.heap.size := by omega
  have nea_1 : ¬ w.heap.size + 1 = w2.heap.size := by omega
  have nfa_1 : ¬ w2.heap.size = w.heap.size + 1 := by omega
  have h2a := h2
  go_wp2_with fail
  refine (HB.out _).mono ?_
  rintro e w3 ⟨rfl, hb⟩
  have hk_new : Keeps (w2.heap.size + 1) [(⟨w2.heap.size, 0, none⟩, .int .i64 t), (⟨w2.heap.size, 1, none⟩, .bool c), (⟨w2.heap.size, 2, none⟩, .int .i64 s), (⟨w2.heap.size, 3, none⟩, .int .i64 v), (⟨w.heap.size, 0, none⟩, .int .i64 t), (⟨w.heap.size, 1, none⟩, .bool c), (⟨w.heap.size, 2, none⟩, .int .i64 s), (⟨w.heap.size, 3, none⟩, .int .i64 v), (⟨w.heap.size + 1, 0, none⟩, .int .i64 3), (⟨w.heap.size + 1, 1, none⟩, .int .i64 a0), (⟨w.heap.size + 1, 2, none⟩, .int .i64 3), (⟨w.heap.size + 1, 3, none⟩, .int .i64 a1)] w w3 := by
    refine Keeps.below ⟨?_, by first | (simp; done) | (simp; omega) | omega, by first | (simp [List.forall_mem_cons]; done) | (simp [List.forall_mem_cons]; omega), by simp [cellsAre_cons, cellsAre_nil, go_sem, World.cell?_alloc_past, *]⟩ hb
    (repeat (first | with_reducible apply Below.drew | with_reducible refine Below.setCell ?_ (by first | exact Nat.le_refl _ | (simp; done) | (simp; omega) | omega) _ | with_reducible refine Below.alloc ?_ (by first | exact Nat.le_refl _ | (simp; done) | (simp; omega) | omega) _ | with_reducible exact Below.refl _ _ | with_reducible assumption))
  clear hb
  try clear hk
  have hk := hk_new
  clear hk_new
  clear h1 h2 h3 h4
  have hk' := hk
  obtain ⟨h1, h2, h3, h4⟩ := hk'
  simp only [cellsAre_cons, cellsAre_nil, and_true] at h4
  clear lta_0 lta_1
  generalize w2.heap.size = b0 at *
  have ltb_0 : w.heap.size < w3.heap.size := by omega
  have neb_0 : ¬ w.heap.size = w3.heap.size := by omega
  have nfb_0 : ¬ w3.heap.size = w.heap.size := by omega
  have ltb_1 : w.heap.size + 1 < w3.heap.size := by omega
  have neb_1 : ¬ w.heap.size + 1 = w3.heap.size := by omega
  have nfb_1 : ¬ w3.heap.size = w.heap.size + 1 := by omega
  have ltb_2 : b0 < w3.heap.size := by omega
  have neb_2 : ¬ b0 = w3.heap.size := by omega
  have nfb_2 : ¬ w3.heap.size = b0 := by omega
  have h2b := h2
  go_wp2_with fail
  refine (HC.out _).mono ?_
  rintro e w4 ⟨rfl, hb⟩
  have hk_new : Keeps (w3.heap.size + 1) [(⟨w3.heap.size, 0, none⟩, .int .i64 qt), (⟨w3.heap.size, 1, none⟩, .bool qc), (⟨w3.heap.size, 2, none⟩, .int .i64 qs), (⟨w3.heap.size, 3, none⟩, .int .i64 qv), (⟨b0, 0, none⟩, .int .i64 t), (⟨b0, 1, none⟩, .bool c), (⟨b0, 2, none⟩, .int .i64 s), (⟨b0, 3, none⟩, .int .i64 v), (⟨w.heap.size, 0, none⟩, .int .i64 t), (⟨w.heap.size, 1, none⟩, .bool c), (⟨w.heap.size, 2, none⟩, .int .i64 s), (⟨w.heap.size, 3, none⟩, .int .i64 v), (⟨w.heap.size + 1, 0, none⟩, .int .i64 3), (⟨w.heap.size + 1, 1, none⟩, .int .i64 a0), (⟨w.heap.size + 1, 2, none⟩, .int .i64 3), (⟨w.heap.size + 1, 3, none⟩, .int .i64 a1)] w w4 := by
    refine Keeps.below ⟨?_, by first | (simp; done) | (simp; omega) | omega, by first | (simp [List.forall_mem_cons]; done) | (simp [List.forall_mem_cons]; omega), by simp [cellsAre_cons, cellsAre_nil, go_sem, World.cell?_alloc_past, *]⟩ hb
    (repeat (first | with_reducible apply Below.drew | with_reducible refine Below.setCell ?_ (by first | exact Nat.le_refl _ | (simp; done) | (simp; omega) | omega) _ | with_reducible refine Below.alloc ?_ (by first | exact Nat.le_refl _ | (simp; done) | (simp; omega) | omega) _ | with_reducible exact Below.refl _ _ | with_reducible assumption))
  clear hb
  try clear hk
  have hk := hk_new
  clear hk_new
  clear h1 h2 h3 h4
  have hk' := hk
  obtain ⟨h1, h2, h3, h4⟩ := hk'
  simp only [cellsAre_cons, cellsAre_nil, and_true] at h4
  clear ltb_0 ltb_1 ltb_2
  generalize w3.heap.size = b1 at *
  have ltc_0 : w.heap.size < w4.heap.size := by omega
  have nec_0 : ¬ w.heap.size = w4.heap.size := by omega
  have nfc_0 : ¬ w4.heap.size = w.heap.size := by omega
  have ltc_1 : w.heap.size + 1 < w4.heap.size := by omega
  have nec_1 : ¬ w.heap.size + 1 = w4.heap.size := by omega
  have nfc_1 : ¬ w4.heap.size = w.heap.size + 1 := by omega
  have ltc_2 : b0 < w4.heap.size := by omega
  have nec_2 : ¬ b0 = w4.heap.size := by omega
  have nfc_2 : ¬ w4.heap.size = b0 := by omega
  have ltc_3 : b1 < w4.heap.size := by omega
  have nec_3 : ¬ b1 = w4.heap.size := by omega
  have nfc_3 : ¬ w4.heap.size = b1 := by omega
  have h2c := h2
  go_wp2_with fail
  refine (HD.out _).mono ?_
  rintro e w5 ⟨rfl, hb⟩
  have hk_new : Keeps (w4.heap.size + 1) [(⟨w4.heap.size, 0, none⟩, .int .i64 rt), (⟨w4.heap.size, 1, none⟩, .bool rc), (⟨w4.heap.size, 2, none⟩, .int .i64 rs), (⟨w4.heap.size, 3, none⟩, .int .i64 rv), (⟨b1, 0, none⟩, .int .i64 qt), (⟨b1, 1, none⟩, .bool qc), (⟨b1, 2, none⟩, .int .i64 qs), (⟨b1, 3, none⟩, .int .i64 qv), (⟨b0, 0, none⟩, .int .i64 t), (⟨b0, 1, none⟩, .bool c), (⟨b0, 2, none⟩, .int .i64 s), (⟨b0, 3, none⟩, .int .i64 v), (⟨w.heap.size, 0, none⟩, .int .i64 t), (⟨w.heap.size, 1, none⟩, .bool c), (⟨w.heap.size, 2, none⟩, .int .i64 s), (⟨w.heap.size, 3, none⟩, .int .i64 v), (⟨w.heap.size + 1, 0, none⟩, .int .i64 3), (⟨w.heap.size + 1, 1, none⟩, .int .i64 a0), (⟨w.heap.size + 1, 2, none⟩, .int .i64 3), (⟨w.heap.size + 1, 3, none⟩, .int .i64 a1)] w w5 := by
    refine Keeps.below ⟨?_, by first | (simp; done) | (simp; omega) | omega, by first | (simp [List.forall_mem_cons]; done) | (simp [List.forall_mem_cons]; omega), by simp [cellsAre_cons, cellsAre_nil, go_sem, World.cell?_alloc_past, *]⟩ hb
    (repeat (first | with_reducible apply Below.drew | with_reducible refine Below.setCell ?_ (by first | exact Nat.le_refl _ | (simp; done) | (simp; omega) | omega) _ | with_reducible refine Below.alloc ?_ (by first | exact Nat.le_refl _ | (simp; done) | (simp; omega) | omega) _ | with_reducible exact Below.refl _ _ | with_reducible assumption))
  clear hb
  try clear hk
  have hk := hk_new
  clear hk_new
  clear h1 h2 h3 h4
  have hk' := hk
  obtain ⟨h1, h2, h3, h4⟩ := hk'
  simp only [cellsAre_cons, cellsAre_nil, and_true] at h4
  clear ltc_0 ltc_1 ltc_2 ltc_3
  generalize w4.heap.size = b2 at *
  have ltz_0 : w.heap.size < w5.heap.size := by omega
  have nez_0 : ¬ w.heap.size = w5.heap.size := by omega
  have nfz_0 : ¬ w5.heap.size = w.heap.size := by omega
  have ltz_1 : w.heap.size + 1 < w5.heap.size := by omega
  have nez_1 : ¬ w.heap.size + 1 = w5.heap.size := by omega
  have nfz_1 : ¬ w5.heap.size = w.heap.size + 1 := by omega
  have ltz_2 : b0 < w5.heap.size := by omega
  have nez_2 : ¬ b0 = w5.heap.size := by omega
  have nfz_2 : ¬ w5.heap.size = b0 := by omega
  have ltz_3 : b1 < w5.heap.size := by omega
  have nez_3 : ¬ b1 = w5.heap.size := by omega
  have nfz_3 : ¬ w5.heap.size = b1 := by omega
  have ltz_4 : b2 < w5.heap.size := by omega
  have nez_4 : ¬ b2 = w5.heap.size := by omega
  have nfz_4 : ¬ w5.heap.size = b2 := by omega
  have h2z := h2
  go_wp2_with fail
  refine (works_any _).mono ?_
  rintro e w9 ⟨rfl, hb⟩
  have hbl : Below w.heap.size w w9 := by
    refine Below.trans ?_ (hb.mono (by simp; omega))
    (repeat (first | with_reducible apply Below.drew | with_reducible refine Below.setCell ?_ (by first | exact Nat.le_refl _ | (simp; done) | (simp; omega) | omega) _ | with_reducible refine Below.alloc ?_ (by first | exact Nat.le_refl _ | (simp; done) | (simp; omega) | omega) _ | with_reducible exact Below.refl _ _ | with_reducible assumption))
  go_wp2_with fail
  go_ret
  exact ⟨rfl, hbl⟩

set_option maxHeartbeats 8000000 in
theorem either_b33 (t s v a0 a1 : Int) (c : Bool) (pt ps : Int) (pc : Bool)(rt rs rv : Int) (rc : Bool)(ut us uv : Int) (uc : Bool) (w : World) (hm : mayS ⟨t, c, s, v⟩ = true) (HA : Hid (∀ w, Calls Try.prog 28 #[.agg #[.int .i64 t, .bool c, .int .i64 s, .int .i64 v], .agg #[.int .i64 3, .int .i64 a0]] w fun e w' => e = .returned (.agg #[.int .i64 pt, .bool pc, .int .i64 ps, .int .i64 (v + 1)]) ∧ Below w.heap.size w w')) (HB : Hid (∀ w, Calls Try.prog 28 #[.agg #[.int .i64 pt, .bool pc, .int .i64 ps, .int .i64 (v + 1)], .agg #[.int .i64 3, .int .i64 a1]] w fun e w' => e = .returned (.agg #[.int .i64 pt, .bool pc, .int .i64 ps, .int .i64 (v + 1)]) ∧ Below w.heap.size w w')) (HC : Hid (∀ w, Calls Try.prog 28 #[.agg #[.int .i64 t, .bool c, .int .i64 s, .int .i64 v], .agg #[.int .i64 3, .int .i64 a1]] w fun e w' => e = .returned (.agg #[.int .i64 rt, .bool rc, .int .i64 rs, .int .i64 rv]) ∧ Below w.heap.size w w')) (HD : Hid (∀ w, Calls Try.prog 28 #[.agg #[.int .i64 rt, .bool rc, .int .i64 rs, .int .i64 rv], .agg #[.int .i64 3, .int .i64 a0]] w fun e w' => e = .returned (.agg #[.int .i64 ut, .bool uc, .int .i64 us, .int .i64 uv]) ∧ Below w.heap.size w w')) (hn : (v + 1 == v) = false) :
    Calls Try.prog 12 #[.agg #[.int .i64 t, .bool c, .int .i64 s, .int .i64 v], .agg #[.int .i64 3, .int .i64 a0, .int .i64 3, .int .i64 a1]] w fun e w' => e = .returned (.bool true) ∧ Below w.heap.size w w' := by
  go_enter Try.func12, Try.ntmps12
  go_wp2_with fail
  refine (law_may _ _ _ _ _).mono ?_
  rintro e w1 ⟨rfl, hb⟩
  have hk_new : Keeps (w.heap.size + 2) [(⟨w.heap.size, 0, none⟩, .int .i64 t), (⟨w.heap.size, 1, none⟩, .bool c), (⟨w.heap.size, 2, none⟩, .int .i64 s), (⟨w.heap.size, 3, none⟩, .int .i64 v), (⟨w.heap.size + 1, 0, none⟩, .int .i64 3), (⟨w.heap.size + 1, 1, none⟩, .int .i64 a0), (⟨w.heap.size + 1, 2, none⟩, .int .i64 3), (⟨w.heap.size + 1, 3, none⟩, .int .i64 a1)] w w1 := by
    refine Keeps.below ⟨?_, by first | (simp; done) | (simp; omega) | omega, by first | (simp [List.forall_mem_cons]; done) | (simp [List.forall_mem_cons]; omega), by simp [cellsAre_cons, cellsAre_nil, go_sem, World.cell?_alloc_past, *]⟩ hb
    (repeat (first | with_reducible apply Below.drew | with_reducible refine Below.setCell ?_ (by first | exact Nat.le_refl _ | (simp; done) | (simp; omega) | omega) _ | with_reducible refine Below.alloc ?_ (by first | exact Nat.le_refl _ | (simp; done) | (simp; omega) | omega) _ | with_reducible exact Below.refl _ _ | with_reducible assumption))
  clear hb
  try clear hk
  have hk := hk_new
  clear hk_new
  have hk' := hk
  obtain ⟨h1, h2, h3, h4⟩ := hk'
  simp only [cellsAre_cons, cellsAre_nil, and_true] at h4
  go_wp2_with fail
  refine (HA.out _).mono ?_
  rintro e w2 ⟨rfl, hb⟩
  have hk_new : Keeps (w.heap.size + 2) [(⟨w.heap.size, 0, none⟩, .int .i64 t), (⟨w.heap.size, 1, none⟩, .bool c), (⟨w.heap.size, 2, none⟩, .int .i64 s), (⟨w.heap.size, 3, none⟩, .int .i64 v), (⟨w.heap.size + 1, 0, none⟩, .int .i64 3), (⟨w.heap.size + 1, 1, none⟩, .int .i64 a0), (⟨w.heap.size + 1, 2, none⟩, .int .i64 3), (⟨w.heap.size + 1, 3, none⟩, .int .i64 a1)] w w2 := by
    refine Keeps.below ⟨?_, by first | (simp; done) | (simp; omega) | omega, by first | (simp [List.forall_mem_cons]; done) | (simp [List.forall_mem_cons]; omega), by simp [cellsAre_cons, cellsAre_nil, go_sem, World.cell?_alloc_past, *]⟩ hb
    (repeat (first | with_reducible apply Below.drew | with_reducible refine Below.setCell ?_ (by first | exact Nat.le_refl _ | (simp; done) | (simp; omega) | omega) _ | with_reducible refine Below.alloc ?_ (by first | exact Nat.le_refl _ | (simp; done) | (simp; omega) | omega) _ | with_reducible exact Below.refl _ _ | with_reducible assumption))
  clear hb
  try clear hk
  have hk := hk_new
  clear hk_new
  clear h1 h2 h3 h4
  have hk' := hk
  obtain ⟨h1, h2, h3, h4⟩ := hk'
  simp only [cellsAre_cons, cellsAre_nil, and_true] at h4
  have lta_0 : w.heap.size < w2.heap.size := by omega
  have nea_0 : ¬ w.heap.size = w2.heap.size := by omega
  have nfa_0 : ¬ w2.heap.size = w.heap.size := by omega
  have lta_1 : w.heap.size + 1 < w2.heap.size := by omega
  have nea_1 : ¬ w.heap.size + 1 = w2.heap.size := by omega
  have nfa_1 : ¬ w2.heap.size = w.heap.size + 1 := by omega
  have h2a := h2
  go_wp2_with fail
  refine (HB.out _).mono ?_
  rintro e w3 ⟨rfl, hb⟩
  have hk_new : Keeps (w2.heap.size + 1) [(⟨w2.heap.size, 0, none⟩, .int .i64 pt), (⟨w2.heap.size, 1, none⟩, .bool pc), (⟨w2.heap.size, 2, none⟩, .int .i64 ps), (⟨w2.heap.size, 3, none⟩, .int .i64 (v + 1)), (⟨w.heap.size, 0, none⟩, .int .i64 t), (⟨w.heap.size, 1, none⟩, .bool c), (⟨w.heap.size, 2, none⟩, .int .i64 s), (⟨w.heap.size, 3, none⟩, .int .i64 v), (⟨w.heap.size + 1, 0, none⟩, .int .i64 3), (⟨w.heap.size + 1, 1, none⟩, .int .i64 a0), (⟨w.heap.size + 1, 2, none⟩, .int .i64 3), (⟨w.heap.size + 1, 3, none⟩, .int .i64 a1)] w w3 := by
    refine Keeps.below ⟨?_, by first | (simp; done) | (simp; omega) | omega, by first | (simp [List.forall_mem_cons]; done) | (simp [List.forall_mem_cons]; omega), by simp [cellsAre_cons, cellsAre_nil, go_sem, World.cell?_alloc_past, *]⟩ hb
    (repeat (first | with_reducible apply Below.drew | with_reducible refine Below.setCell ?_ (by first | exact Nat.le_refl _ | (simp; done) | (simp; omega) | omega) _ | with_reducible refine Below.alloc ?_ (by first | exact Nat.le_refl _ | (simp; done) | (simp; omega) | omega) _ | with_reducible exact Below.refl _ _ | with_reducible assumption))
  clear hb
  try clear hk
  have hk := hk_new
  clear hk_new
  clear h1 h2 h3 h4
  have hk' := hk
  obtain ⟨h1, h2, h3, h4⟩ := hk'
  simp only [cellsAre_cons, cellsAre_nil, and_true] at h4
  clear lta_0 lta_1
  generalize w2.heap.size = b0 at *
  have ltb_0 : w.heap.size < w3.heap.size := by omega
  have neb_0 : ¬ w.heap.size = w3.heap.size := by omega
  have nfb_0 : ¬ w3.heap.size = w.heap.size := by omega
  have ltb_1 : w.heap.size + 1 < w3.heap.size := by omega
  have neb_1 : ¬ w.heap.size + 1 = w3.heap.size := by omega
  have nfb_1 : ¬ w3.heap.size = w.heap.size + 1 := by omega
  have ltb_2 : b0 < w3.heap.size := by omega
  have neb_2 : ¬ b0 = w3.heap.size := by omega
  have nfb_2 : ¬ w3.heap.size = b0 := by omega
  have h2b := h2
  go_wp2_with fail
  refine (HC.out _).mono ?_
  rintro e w4 ⟨rfl, hb⟩
  have hk_new : Keeps (w3.heap.size + 1) [(⟨w3.heap.size, 0, none⟩, .int .i64 pt), (⟨w3.heap.size, 1, none⟩, .bool pc), (⟨w3.heap.size, 2, none⟩, .int .i64 ps), (⟨w3.heap.size, 3, none⟩, .int .i64 (v + 1)), (⟨b0, 0, none⟩, .int .i64 pt), (⟨b0, 1, none⟩, .bool pc), (⟨b0, 2, none⟩, .int .i64 ps), (⟨b0, 3, none⟩, .int .i64 (v + 1)), (⟨w.heap.size, 0, none⟩, .int .i64 t), (⟨w.heap.size, 1, none⟩, .bool c), (⟨w.heap.size, 2, none⟩, .int .i64 s), (⟨w.heap.size, 3, none⟩, .int .i64 v), (⟨w.heap.size + 1, 0, none⟩, .int .i64 3), (⟨w.heap.size + 1, 1, none⟩, .int .i64 a0), (⟨w.heap.size + 1, 2, none⟩, .int .i64 3), (⟨w.heap.size + 1, 3, none⟩, .int .i64 a1)] w w4 := by
    refine Keeps.below ⟨?_, by first | (simp; done) | (simp; omega) | omega, by first | (simp [List.forall_mem_cons]; done) | (simp [List.forall_mem_cons]; omega), by simp [cellsAre_cons, cellsAre_nil, go_sem, World.cell?_alloc_past, *]⟩ hb
    (repeat (first | with_reducible apply Below.drew | with_reducible refine Below.setCell ?_ (by first | exact Nat.le_refl _ | (simp; done) | (simp; omega) | omega) _ | with_reducible refine Below.alloc ?_ (by first | exact Nat.le_refl _ | (simp; done) | (simp; omega) | omega) _ | with_reducible exact Below.refl _ _ | with_reducible assumption))
  clear hb
  try clear hk
  have hk := hk_new
  clear hk_new
  clear h1 h2 h3 h4
  have hk' := hk
  obtain ⟨h1, h2, h3, h4⟩ := hk'
  simp only [cellsAre_cons, cellsAre_nil, and_true] at h4
  clear ltb_0 ltb_1 ltb_2
  generalize w3.heap.size = b1 at *
  have ltc_0 : w.heap.size < w4.heap.size := by omega
  have nec_0 : ¬ w.heap.size = w4.heap.size := by omega
  have nfc_0 : ¬ w4.heap.size = w.heap.size := by omega
  have ltc_1 : w.heap.size + 1 < w4.heap.size := by omega
  have nec_1 : ¬ w.heap.size + 1 = w4.heap.size := by omega
  have nfc_1 : ¬ w4.heap.size = w.heap.size + 1 := by omega
  have ltc_2 : b0 < w4.heap.size := by omega
  have nec_2 : ¬ b0 = w4.heap.size := by omega
  have nfc_2 : ¬ w4.heap.size = b0 := by omega
  have ltc_3 : b1 < w4.heap.size := by omega
  have nec_3 : ¬ b1 = w4.heap.size := by omega
  have nfc_3 : ¬ w4.heap.size = b1 := by omega
  have h2c := h2
  go_wp2_with fail
  refine (HD.out _).mono ?_
  rintro e w5 ⟨rfl, hb⟩
  have hk_new : Keeps (w4.heap.size + 1) [(⟨w4.heap.size, 0, none⟩, .int .i64 rt), (⟨w4.heap.size, 1, none⟩, .bool rc), (⟨w4.heap.size, 2, none⟩, .int .i64 rs), (⟨w4.heap.size, 3, none⟩, .int .i64 rv), (⟨b1, 0, none⟩, .int .i64 pt), (⟨b1, 1, none⟩, .bool pc), (⟨b1, 2, none⟩, .int .i64 ps), (⟨b1, 3, none⟩, .int .i64 (v + 1)), (⟨b0, 0, none⟩, .int .i64 pt), (⟨b0, 1, none⟩, .bool pc), (⟨b0, 2, none⟩, .int .i64 ps), (⟨b0, 3, none⟩, .int .i64 (v + 1)), (⟨w.heap.size, 0, none⟩, .int .i64 t), (⟨w.heap.size, 1, none⟩, .bool c), (⟨w.heap.size, 2, none⟩, .int .i64 s), (⟨w.heap.size, 3, none⟩, .int .i64 v), (⟨w.heap.size + 1, 0, none⟩, .int .i64 3), (⟨w.heap.size + 1, 1, none⟩, .int .i64 a0), (⟨w.heap.size + 1, 2, none⟩, .int .i64 3), (⟨w.heap.size + 1, 3, none⟩, .int .i64 a1)] w w5 := by
    refine Keeps.below ⟨?_, by first | (simp; done) | (simp; omega) | omega, by first | (simp [List.forall_mem_cons]; done) | (simp [List.forall_mem_cons]; omega), by simp [cellsAre_cons, cellsAre_nil, go_sem, World.cell?_alloc_past, *]⟩ hb
    (repeat (first | with_reducible apply Below.drew | with_reducible refine Below.setCell ?_ (by first | exact Nat.le_refl _ | (simp; done) | (simp; omega) | omega) _ | with_reducible refine Below.alloc ?_ (by first | exact Nat.le_refl _ | (simp; done) | (simp; omega) | omega) _ | with_reducible exact Below.refl _ _ | with_reducible assumption))
  clear hb
  try clear hk
  have hk := hk_new
  clear hk_new
  clear h1 h2 h3 h4
  have hk' := hk
  obtain ⟨h1, h2, h3, h4⟩ := hk'
  simp only [cellsAre_cons, cellsAre_nil, and_true] at h4
  clear ltc_0 ltc_1 ltc_2 ltc_3
  generalize w4.heap.size = b2 at *
  have ltz_0 : w.heap.size < w5.heap.size := by omega
  have nez_0 : ¬ w.heap.size = w5.heap.size := by omega
  have nfz_0 : ¬ w5.heap.size = w.heap.size := by omega
  have ltz_1 : w.heap.size + 1 < w5.heap.size := by omega
  have nez_1 : ¬ w.heap.size + 1 = w5.heap.size := by omega
  have nfz_1 : ¬ w5.heap.size = w.heap.size + 1 := by omega
  have ltz_2 : b0 < w5.heap.size := by omega
  have nez_2 : ¬ b0 = w5.heap.size := by omega
  have nfz_2 : ¬ w5.heap.size = b0 := by omega
  have ltz_3 : b1 < w5.heap.size := by omega
  have nez_3 : ¬ b1 = w5.heap.size := by omega
  have nfz_3 : ¬ w5.heap.size = b1 := by omega
  have ltz_4 : b2 < w5.heap.size := by omega
  have nez_4 : ¬ b2 = w5.heap.size := by omega
  have nfz_4 : ¬ w5.heap.size = b2 := by omega
  have h2z := h2
  go_wp2_with fail
  refine (works_any _).mono ?_
  rintro e w9 ⟨rfl, hb⟩
  have hbl : Below w.heap.size w w9 := by
    refine Below.trans ?_ (hb.mono (by simp; omega))
    (repeat (first | with_reducible apply Below.drew | with_reducible refine Below.setCell ?_ (by first | exact Nat.le_refl _ | (simp; done) | (simp; omega) | omega) _ | with_reducible refine Below.alloc ?_ (by first | exact Nat.le_refl _ | (simp; done) | (simp; omega) | omega) _ | with_reducible exact Below.refl _ _ | with_reducible assumption))
  go_wp2_with fail
  go_ret
  exact ⟨rfl, hbl⟩

set_option maxHeartbeats 8000000 in
theorem either_c33 (t s v a0 a1 : Int) (c : Bool) (pt ps : Int) (pc : Bool) (qt qs : Int) (qc : Bool)(ut us uv : Int) (uc : Bool) (w : World) (hm : mayS ⟨t, c, s, v⟩ = true) (HA : Hid (∀ w, Calls Try.prog 28 #[.agg #[.int .i64 t, .bool c, .int .i64 s, .int .i64 v], .agg #[.int .i64 3, .int .i64 a0]] w fun e w' => e = .returned (.agg #[.int .i64 pt, .bool pc, .int .i64 ps, .int .i64 (v + 1)]) ∧ Below w.heap.size w w')) (HB : Hid (∀ w, Calls Try.prog 28 #[.agg #[.int .i64 pt, .bool pc, .int .i64 ps, .int .i64 (v + 1)], .agg #[.int .i64 3, .int .i64 a1]] w fun e w' => e = .returned (.agg #[.int .i64 qt, .bool qc, .int .i64 qs, .int .i64 (v + 1 + 1)]) ∧ Below w.heap.size w w')) (HC : Hid (∀ w, Calls Try.prog 28 #[.agg #[.int .i64 t, .bool c, .int .i64 s, .int .i64 v], .agg #[.int .i64 3, .int .i64 a1]] w fun e w' => e = .returned (.agg #[.int .i64 t, .bool c, .int .i64 s, .int .i64 v]) ∧ Below w.heap.size w w')) (HD : Hid (∀ w, Calls Try.prog 28 #[.agg #[.int .i64 t, .bool c, .int .i64 s, .int .i64 v], .agg #[.int .i64 3, .int .i64 a0]] w fun e w' => e = .returned (.agg #[.int .i64 ut, .bool uc, .int .i64 us, .int .i64 uv]) ∧ Below w.heap.size w w')) (hn : (v + 1 == v) = false) (hn2 : (v + 1 + 1 == v + 1) = false) :
    Calls Try.prog 12 #[.agg #[.int .i64 t, .bool c, .int .i64 s, .int .i64 v], .agg #[.int .i64 3, .int .i64 a0, .int .i64 3, .int .i64 a1]] w fun e w' => e = .returned (.bool true) ∧ Below w.heap.size w w' := by
  go_enter Try.func12, Try.ntmps12
  go_wp2_with fail
  refine (law_may _ _ _ _ _).mono ?_
  rintro e w1 ⟨rfl, hb⟩
  have hk_new : Keeps (w.heap.size + 2) [(⟨w.heap.size, 0, none⟩, .int .i64 t), (⟨w.heap.size, 1, none⟩, .bool c), (⟨w.heap.size, 2, none⟩, .int .i64 s), (⟨w.heap.size, 3, none⟩, .int .i64 v), (⟨w.heap.size + 1, 0, none⟩, .int .i64 3), (⟨w.heap.size + 1, 1, none⟩, .int .i64 a0), (⟨w.heap.size + 1, 2, none⟩, .int .i64 3), (⟨w.heap.size + 1, 3, none⟩, .int .i64 a1)] w w1 := by
    refine Keeps.below ⟨?_, by first | (simp; done) | (simp; omega) | omega, by first | (simp [List.forall_mem_cons]; done) | (simp [List.forall_mem_cons]; omega), by simp [cellsAre_cons, cellsAre_nil, go_sem, World.cell?_alloc_past, *]⟩ hb
    (repeat (first | with_reducible apply Below.drew | with_reducible refine Below.setCell ?_ (by first | exact Nat.le_refl _ | (simp; done) | (simp; omega) | omega) _ | with_reducible refine Below.alloc ?_ (by first | exact Nat.le_refl _ | (simp; done) | (simp; omega) | omega) _ | with_reducible exact Below.refl _ _ | with_reducible assumption))
  clear hb
  try clear hk
  have hk := hk_new
  clear hk_new
  have hk' := hk
  obtain ⟨h1, h2, h3, h4⟩ := hk'
  simp only [cellsAre_cons, cellsAre_nil, and_true] at h4
  go_wp2_with fail
  refine (HA.out _).mono ?_
  rintro e w2 ⟨rfl, hb⟩
  have hk_new : Keeps (w.heap.size + 2) [(⟨w.heap.size, 0, none⟩, .int .i64 t), (⟨w.heap.size, 1, none⟩, .bool c), (⟨w.heap.size, 2, none⟩, .int .i64 s), (⟨w.heap.size, 3, none⟩, .int .i64 v), (⟨w.heap.size + 1, 0, none⟩, .int .i64 3), (⟨w.heap.size + 1, 1, none⟩, .int .i64 a0), (⟨w.heap.size + 1, 2, none⟩, .int .i64 3), (⟨w.heap.size + 1, 3, none⟩, .int .i64 a1)] w w2 := by
    refine Keeps.below ⟨?_, by first | (simp; done) | (simp; omega) | omega, by first | (simp [List.forall_mem_cons]; done) | (simp [List.forall_mem_cons]; omega), by simp [cellsAre_cons, cellsAre_nil, go_sem, World.cell?_alloc_past, *]⟩ hb
    (repeat (first | with_reducible apply Below.drew | with_reducible refine Below.setCell ?_ (by first | exact Nat.le_refl _ | (simp; done) | (simp; omega) | omega) _ | with_reducible refine Below.alloc ?_ (by first | exact Nat.le_refl _ | (simp; done) | (simp; omega) | omega) _ | with_reducible exact Below.refl _ _ | with_reducible assumption))
  clear hb
  try clear hk
  have hk := hk_new
  clear hk_new
  clear h1 h2 h3 h4
  have hk' := hk
  obtain ⟨h1, h2, h3, h4⟩ := hk'
  simp only [cellsAre_cons, cellsAre_nil, and_true] at h4
  have lta_0 : w.heap.size < w2.heap.size := by omega
  have nea_0 : ¬ w.heap.size = w2.heap.size := by omega
  have nfa_0 : ¬ w2.heap.size = w.heap.size := by omega
  have lta_1 : w.heap.size + 1 < w2.heap.size := by omega
  have nea_1 : ¬ w.heap.size + 1 = w2.heap.size := by omega
  have nfa_1 : ¬ w2.heap.size = w.heap.size + 1 := by omega
  have h2a := h2
  go_wp2_with fail
  refine (HB.out _).mono ?_
  rintro e w3 ⟨rfl, hb⟩
  have hk_new : Keeps (w2.heap.size + 1) [(⟨w2.heap.size, 0, none⟩, .int .i64 pt), (⟨w2.heap.size, 1, none⟩, .bool pc), (⟨w2.heap.size, 2, none⟩, .int .i64 ps), (⟨w2.heap.size, 3, none⟩, .int .i64 (v + 1)), (⟨w.heap.size, 0, none⟩, .int .i64 t), (⟨w.heap.size, 1, none⟩, .bool c), (⟨w.heap.size, 2, none⟩, .int .i64 s), (⟨w.heap.size, 3, none⟩, .int .i64 v), (⟨w.heap.size + 1, 0, none⟩, .int .i64 3), (⟨w.heap.size + 1, 1, none⟩, .int .i64 a0), (⟨w.heap.size + 1, 2, none⟩, .int .i64 3), (⟨w.heap.size + 1, 3, none⟩, .int .i64 a1)] w w3 := by
    refine Keeps.below ⟨?_, by first | (simp; done) | (simp; omega) | omega, by first | (simp [List.forall_mem_cons]; done) | (simp [List.forall_mem_cons]; omega), by simp [cellsAre_cons, cellsAre_nil, go_sem, World.cell?_alloc_past, *]⟩ hb
    (repeat (first | with_reducible apply Below.drew | with_reducible refine Below.setCell ?_ (by first | exact Nat.le_refl _ | (simp; done) | (simp; omega) | omega) _ | with_reducible refine Below.alloc ?_ (by first | exact Nat.le_refl _ | (simp; done) | (simp; omega) | omega) _ | with_reducible exact Below.refl _ _ | with_reducible assumption))
  clear hb
  try clear hk
  have hk := hk_new
  clear hk_new
  clear h1 h2 h3 h4
  have hk' := hk
  obtain ⟨h1, h2, h3, h4⟩ := hk'
  simp only [cellsAre_cons, cellsAre_nil, and_true] at h4
  clear lta_0 lta_1
  generalize w2.heap.size = b0 at *
  have ltb_0 : w.heap.size < w3.heap.size := by omega
  have neb_0 : ¬ w.heap.size = w3.heap.size := by omega
  have nfb_0 : ¬ w3.heap.size = w.heap.size := by omega
  have ltb_1 : w.heap.size + 1 < w3.heap.size := by omega
  have neb_1 : ¬ w.heap.size + 1 = w3.heap.size := by omega
  have nfb_1 : ¬ w3.heap.size = w.heap.size + 1 := by omega
  have ltb_2 : b0 < w3.heap.size := by omega
  have neb_2 : ¬ b0 = w3.heap.size := by omega
  have nfb_2 : ¬ w3.heap.size = b0 := by omega
  have h2b := h2
  go_wp2_with fail
  refine (HC.out _).mono ?_
  rintro e w4 ⟨rfl, hb⟩
  have hk_new : Keeps (w3.heap.size + 1) [(⟨w3.heap.size, 0, none⟩, .int .i64 qt), (⟨w3.heap.size, 1, none⟩, .bool qc), (⟨w3.heap.size, 2, none⟩, .int .i64 qs), (⟨w3.heap.size, 3, none⟩, .int .i64 (v + 1 + 1)), (⟨b0, 0, none⟩, .int .i64 pt), (⟨b0, 1, none⟩, .bool pc), (⟨b0, 2, none⟩, .int .i64 ps), (⟨b0, 3, none⟩, .int .i64 (v + 1)), (⟨w.heap.size, 0, none⟩, .int .i64 t), (⟨w.heap.size, 1, none⟩, .bool c), (⟨w.heap.size, 2, none⟩, .int .i64 s), (⟨w.heap.size, 3, none⟩, .int .i64 v), (⟨w.heap.size + 1, 0, none⟩, .int .i64 3), (⟨w.heap.size + 1, 1, none⟩, .int .i64 a0), (⟨w.heap.size + 1, 2, none⟩, .int .i64 3), (⟨w.heap.size + 1, 3, none⟩, .int .i64 a1)] w w4 := by
    refine Keeps.below ⟨?_, by first | (simp; done) | (simp; omega) | omega, by first | (simp [List.forall_mem_cons]; done) | (simp [List.forall_mem_cons]; omega), by simp [cellsAre_cons, cellsAre_nil, go_sem, World.cell?_alloc_past, *]⟩ hb
    (repeat (first | with_reducible apply Below.drew | with_reducible refine Below.setCell ?_ (by first | exact Nat.le_refl _ | (simp; done) | (simp; omega) | omega) _ | with_reducible refine Below.alloc ?_ (by first | exact Nat.le_refl _ | (simp; done) | (simp; omega) | omega) _ | with_reducible exact Below.refl _ _ | with_reducible assumption))
  clear hb
  try clear hk
  have hk := hk_new
  clear hk_new
  clear h1 h2 h3 h4
  have hk' := hk
  obtain ⟨h1, h2, h3, h4⟩ := hk'
  simp only [cellsAre_cons, cellsAre_nil, and_true] at h4
  clear ltb_0 ltb_1 ltb_2
  generalize w3.heap.size = b1 at *
  have ltc_0 : w.heap.size < w4.heap.size := by omega
  have nec_0 : ¬ w.heap.size = w4.heap.size := by omega
  have nfc_0 : ¬ w4.heap.size = w.heap.size := by omega
  have ltc_1 : w.heap.size + 1 < w4.heap.size := by omega
  have nec_1 : ¬ w.heap.size + 1 = w4.heap.size := by omega
  have nfc_1 : ¬ w4.heap.size = w.heap.size + 1 := by omega
  have ltc_2 : b0 < w4.heap.size := by omega
  have nec_2 : ¬ b0 = w4.heap.size := by omega
  have nfc_2 : ¬ w4.heap.size = b0 := by omega
  have ltc_3 : b1 < w4.heap.size := by omega
  have nec_3 : ¬ b1 = w4.heap.size := by omega
  have nfc_3 : ¬ w4.heap.size = b1 := by omega
  have h2c := h2
  go_wp2_with fail
  refine (HD.out _).mono ?_
  rintro e w5 ⟨rfl, hb⟩
  have hk_new : Keeps (w4.heap.size + 1) [(⟨w4.heap.size, 0, none⟩, .int .i64 t), (⟨w4.heap.size, 1, none⟩, .bool c), (⟨w4.heap.size, 2, none⟩, .int .i64 s), (⟨w4.heap.size, 3, none⟩, .int .i64 v), (⟨b1, 0, none⟩, .int .i64 qt), (⟨b1, 1, none⟩, .bool qc), (⟨b1, 2, none⟩, .int .i64 qs), (⟨b1, 3, none⟩, .int .i64 (v + 1 + 1)), (⟨b0, 0, none⟩, .int .i64 pt), (⟨b0, 1, none⟩, .bool pc), (⟨b0, 2, none⟩, .int .i64 ps), (⟨b0, 3, none⟩, .int .i64 (v + 1)), (⟨w.heap.size, 0, none⟩, .int .i64 t), (⟨w.heap.size, 1, none⟩, .bool c), (⟨w.heap.size, 2, none⟩, .int .i64 s), (⟨w.heap.size, 3, none⟩, .int .i64 v), (⟨w.heap.size + 1, 0, none⟩, .int .i64 3), (⟨w.heap.size + 1, 1, none⟩, .int .i64 a0), (⟨w.heap.size + 1, 2, none⟩, .int .i64 3), (⟨w.heap.size + 1, 3, none⟩, .int .i64 a1)] w w5 := by
    refine Keeps.below ⟨?_, by first | (simp; done) | (simp; omega) | omega, by first | (simp [List.forall_mem_cons]; done) | (simp [List.forall_mem_cons]; omega), by simp [cellsAre_cons, cellsAre_nil, go_sem, World.cell?_alloc_past, *]⟩ hb
    (repeat (first | with_reducible apply Below.drew | with_reducible refine Below.setCell ?_ (by first | exact Nat.le_refl _ | (simp; done) | (simp; omega) | omega) _ | with_reducible refine Below.alloc ?_ (by first | exact Nat.le_refl _ | (simp; done) | (simp; omega) | omega) _ | with_reducible exact Below.refl _ _ | with_reducible assumption))
  clear hb
  try clear hk
  have hk := hk_new
  clear hk_new
  clear h1 h2 h3 h4
  have hk' := hk
  obtain ⟨h1, h2, h3, h4⟩ := hk'
  simp only [cellsAre_cons, cellsAre_nil, and_true] at h4
  clear ltc_0 ltc_1 ltc_2 ltc_3
  generalize w4.heap.size = b2 at *
  have ltz_0 : w.heap.size < w5.heap.size := by omega
  have nez_0 : ¬ w.heap.size = w5.heap.size := by omega
  have nfz_0 : ¬ w5.heap.size = w.heap.size := by omega
  have ltz_1 : w.heap.size + 1 < w5.heap.size := by omega
  have nez_1 : ¬ w.heap.size + 1 = w5.heap.size := by omega
  have nfz_1 : ¬ w5.heap.size = w.heap.size + 1 := by omega
  have ltz_2 : b0 < w5.heap.size := by omega
  have nez_2 : ¬ b0 = w5.heap.size := by omega
  have nfz_2 : ¬ w5.heap.size = b0 := by omega
  have ltz_3 : b1 < w5.heap.size := by omega
  have nez_3 : ¬ b1 = w5.heap.size := by omega
  have nfz_3 : ¬ w5.heap.size = b1 := by omega
  have ltz_4 : b2 < w5.heap.size := by omega
  have nez_4 : ¬ b2 = w5.heap.size := by omega
  have nfz_4 : ¬ w5.heap.size = b2 := by omega
  have h2z := h2
  go_wp2_with fail
  refine (works_any _).mono ?_
  rintro e w9 ⟨rfl, hb⟩
  have hbl : Below w.heap.size w w9 := by
    refine Below.trans ?_ (hb.mono (by simp; omega))
    (repeat (first | with_reducible apply Below.drew | with_reducible refine Below.setCell ?_ (by first | exact Nat.le_refl _ | (simp; done) | (simp; omega) | omega) _ | with_reducible refine Below.alloc ?_ (by first | exact Nat.le_refl _ | (simp; done) | (simp; omega) | omega) _ | with_reducible exact Below.refl _ _ | with_reducible assumption))
  go_wp2_with fail
  go_ret
  exact ⟨rfl, hbl⟩

set_option maxHeartbeats 8000000 in
theorem either_d33 (t s v a0 a1 : Int) (c : Bool) (pt ps : Int) (pc : Bool) (qt qs : Int) (qc : Bool) (rt rs : Int) (rc : Bool) (w : World) (hm : mayS ⟨t, c, s, v⟩ = true) (HA : Hid (∀ w, Calls Try.prog 28 #[.agg #[.int .i64 t, .bool c, .int .i64 s, .int .i64 v], .agg #[.int .i64 3, .int .i64 a0]] w fun e w' => e = .returned (.agg #[.int .i64 pt, .bool pc, .int .i64 ps, .int .i64 (v + 1)]) ∧ Below w.heap.size w w')) (HB : Hid (∀ w, Calls Try.prog 28 #[.agg #[.int .i64 pt, .bool pc, .int .i64 ps, .int .i64 (v + 1)], .agg #[.int .i64 3, .int .i64 a1]] w fun e w' => e = .returned (.agg #[.int .i64 qt, .bool qc, .int .i64 qs, .int .i64 (v + 1 + 1)]) ∧ Below w.heap.size w w')) (HC : Hid (∀ w, Calls Try.prog 28 #[.agg #[.int .i64 t, .bool c, .int .i64 s, .int .i64 v], .agg #[.int .i64 3, .int .i64 a1]] w fun e w' => e = .returned (.agg #[.int .i64 rt, .bool rc, .int .i64 rs, .int .i64 (v + 1)]) ∧ Below w.heap.size w w')) (HD : Hid (∀ w, Calls Try.prog 28 #[.agg #[.int .i64 rt, .bool rc, .int .i64 rs, .int .i64 (v + 1)], .agg #[.int .i64 3, .int .i64 a0]] w fun e w' => e = .returned (.agg #[.int .i64 rt, .bool rc, .int .i64 rs, .int .i64 (v + 1)]) ∧ Below w.heap.size w w')) (hn : (v + 1 == v) = false) (hn2 : (v + 1 + 1 == v + 1) = false) :
    Calls Try.prog 12 #[.agg #[.int .i64 t, .bool c, .int .i64 s, .int .i64 v], .agg #[.int .i64 3, .int .i64 a0, .int .i64 3, .int .i64 a1]] w fun e w' => e = .returned (.bool true) ∧ Below w.heap.size w w' := by
  go_enter Try.func12, Try.ntmps12
  go_wp2_with fail
  refine (law_may _ _ _ _ _).mono ?_
  rintro e w1 ⟨rfl, hb⟩
  have hk_new : Keeps (w.heap.size + 2) [(⟨w.heap.size, 0, none⟩, .int .i64 t), (⟨w.heap.size, 1, none⟩, .bool c), (⟨w.heap.size, 2, none⟩, .int .i64 s), (⟨w.heap.size, 3, none⟩, .int .i64 v), (⟨w.heap.size + 1, 0, none⟩, .int .i64 3), (⟨w.heap.size + 1, 1, none⟩, .int .i64 a0), (⟨w.heap.size + 1, 2, none⟩, .int .i64 3), (⟨w.heap.size + 1, 3, none⟩, .int .i64 a1)] w w1 := by
    refine Keeps.below ⟨?_, by first | (simp; done) | (simp; omega) | omega, by first | (simp [List.forall_mem_cons]; done) | (simp [List.forall_mem_cons]; omega), by simp [cellsAre_cons, cellsAre_nil, go_sem, World.cell?_alloc_past, *]⟩ hb
    (repeat (first | with_reducible apply Below.drew | with_reducible refine Below.setCell ?_ (by first | exact Nat.le_refl _ | (simp; done) | (simp; omega) | omega) _ | with_reducible refine Below.alloc ?_ (by first | exact Nat.le_refl _ | (simp; done) | (simp; omega) | omega) _ | with_reducible exact Below.refl _ _ | with_reducible assumption))
  clear hb
  try clear hk
  have hk := hk_new
  clear hk_new
  have hk' := hk
  obtain ⟨h1, h2, h3, h4⟩ := hk'
  simp only [cellsAre_cons, cellsAre_nil, and_true] at h4
  go_wp2_with fail
  refine (HA.out _).mono ?_
  rintro e w2 ⟨rfl, hb⟩
  have hk_new : Keeps (w.heap.size + 2) [(⟨w.heap.size, 0, none⟩, .int .i64 t), (⟨w.heap.size, 1, none⟩, .bool c), (⟨w.heap.size, 2, none⟩, .int .i64 s), (⟨w.heap.size, 3, none⟩, .int .i64 v), (⟨w.heap.size + 1, 0, none⟩, .int .i64 3), (⟨w.heap.size + 1, 1, none⟩, .int .i64 a0), (⟨w.heap.size + 1, 2, none⟩, .int .i64 3), (⟨w.heap.size + 1, 3, none⟩, .int .i64 a1)] w w2 := by
    refine Keeps.below ⟨?_, by first | (simp; done) | (simp; omega) | omega, by first | (simp [List.forall_mem_cons]; done) | (simp [List.forall_mem_cons]; omega), by simp [cellsAre_cons, cellsAre_nil, go_sem, World.cell?_alloc_past, *]⟩ hb
    (repeat (first | with_reducible apply Below.drew | with_reducible refine Below.setCell ?_ (by first | exact Nat.le_refl _ | (simp; done) | (simp; omega) | omega) _ | with_reducible refine Below.alloc ?_ (by first | exact Nat.le_refl _ | (simp; done) | (simp; omega) | omega) _ | with_reducible exact Below.refl _ _ | with_reducible assumption))
  clear hb
  try clear hk
  have hk := hk_new
  clear hk_new
  clear h1 h2 h3 h4
  have hk' := hk
  obtain ⟨h1, h2, h3, h4⟩ := hk'
  simp only [cellsAre_cons, cellsAre_nil, and_true] at h4
  have lta_0 : w.heap.size < w2.heap.size := by omega
  have nea_0 : ¬ w.heap.size = w2.heap.size := by omega
  have nfa_0 : ¬ w2.heap.size = w.heap.size := by omega
  have lta_1 : w.heap.size + 1 < w2.heap.size := by omega
  have nea_1 : ¬ w.heap.size + 1 = w2.heap.size := by omega
  have nfa_1 : ¬ w2.heap.size = w.heap.size + 1 := by omega
  have h2a := h2
  go_wp2_with fail
  refine (HB.out _).mono ?_
  rintro e w3 ⟨rfl, hb⟩
  have hk_new : Keeps (w2.heap.size + 1) [(⟨w2.heap.size, 0, none⟩, .int .i64 pt), (⟨w2.heap.size, 1, none⟩, .bool pc), (⟨w2.heap.size, 2, none⟩, .int .i64 ps), (⟨w2.heap.size, 3, none⟩, .int .i64 (v + 1)), (⟨w.heap.size, 0, none⟩, .int .i64 t), (⟨w.heap.size, 1, none⟩, .bool c), (⟨w.heap.size, 2, none⟩, .int .i64 s), (⟨w.heap.size, 3, none⟩, .int .i64 v), (⟨w.heap.size + 1, 0, none⟩, .int .i64 3), (⟨w.heap.size + 1, 1, none⟩, .int .i64 a0), (⟨w.heap.size + 1, 2, none⟩, .int .i64 3), (⟨w.heap.size + 1, 3, none⟩, .int .i64 a1)] w w3 := by
    refine Keeps.below ⟨?_, by first | (simp; done) | (simp; omega) | omega, by first | (simp [List.forall_mem_cons]; done) | (simp [List.forall_mem_cons]; omega), by simp [cellsAre_cons, cellsAre_nil, go_sem, World.cell?_alloc_past, *]⟩ hb
    (repeat (first | with_reducible apply Below.drew | with_reducible refine Below.setCell ?_ (by first | exact Nat.le_refl _ | (simp; done) | (simp; omega) | omega) _ | with_reducible refine Below.alloc ?_ (by first | exact Nat.le_refl _ | (simp; done) | (simp; omega) | omega) _ | with_reducible exact Below.refl _ _ | with_reducible assumption))
  clear hb
  try clear hk
  have hk := hk_new
  clear hk_new
  clear h1 h2 h3 h4
  have hk' := hk
  obtain ⟨h1, h2, h3, h4⟩ := hk'
  simp only [cellsAre_cons, cellsAre_nil, and_true] at h4
  clear lta_0 lta_1
  generalize w2.heap.size = b0 at *
  have ltb_0 : w.heap.size < w3.heap.size := by omega
  have neb_0 : ¬ w.heap.size = w3.heap.size := by omega
  have nfb_0 : ¬ w3.heap.size = w.heap.size := by omega
  have ltb_1 : w.heap.size + 1 < w3.heap.size := by omega
  have neb_1 : ¬ w.heap.size + 1 = w3.heap.size := by omega
  have nfb_1 : ¬ w3.heap.size = w.heap.size + 1 := by omega
  have ltb_2 : b0 < w3.heap.size := by omega
  have neb_2 : ¬ b0 = w3.heap.size := by omega
  have nfb_2 : ¬ w3.heap.size = b0 := by omega
  have h2b := h2
  go_wp2_with fail
  refine (HC.out _).mono ?_
  rintro e w4 ⟨rfl, hb⟩
  have hk_new : Keeps (w3.heap.size + 1) [(⟨w3.heap.size, 0, none⟩, .int .i64 qt), (⟨w3.heap.size, 1, none⟩, .bool qc), (⟨w3.heap.size, 2, none⟩, .int .i64 qs), (⟨w3.heap.size, 3, none⟩, .int .i64 (v + 1 + 1)), (⟨b0, 0, none⟩, .int .i64 pt), (⟨b0, 1, none⟩, .bool pc), (⟨b0, 2, none⟩, .int .i64 ps), (⟨b0, 3, none⟩, .int .i64 (v + 1)), (⟨w.heap.size, 0, none⟩, .int .i64 t), (⟨w.heap.size, 1, none⟩, .bool c), (⟨w.heap.size, 2, none⟩, .int .i64 s), (⟨w.heap.size, 3, none⟩, .int .i64 v), (⟨w.heap.size + 1, 0, none⟩, .int .i64 3), (⟨w.heap.size + 1, 1, none⟩, .int .i64 a0), (⟨w.heap.size + 1, 2, none⟩, .int .i64 3), (⟨w.heap.size + 1, 3, none⟩, .int .i64 a1)] w w4 := by
    refine Keeps.below ⟨?_, by first | (simp; done) | (simp; omega) | omega, by first | (simp [List.forall_mem_cons]; done) | (simp [List.forall_mem_cons]; omega), by simp [cellsAre_cons, cellsAre_nil, go_sem, World.cell?_alloc_past, *]⟩ hb
    (repeat (first | with_reducible apply Below.drew | with_reducible refine Below.setCell ?_ (by first | exact Nat.le_refl _ | (simp; done) | (simp; omega) | omega) _ | with_reducible refine Below.alloc ?_ (by first | exact Nat.le_refl _ | (simp; done) | (simp; omega) | omega) _ | with_reducible exact Below.refl _ _ | with_reducible assumption))
  clear hb
  try clear hk
  have hk := hk_new
  clear hk_new
  clear h1 h2 h3 h4
  have hk' := hk
  obtain ⟨h1, h2, h3, h4⟩ := hk'
  simp only [cellsAre_cons, cellsAre_nil, and_true] at h4
  clear ltb_0 ltb_1 ltb_2
  generalize w3.heap.size = b1 at *
  have ltc_0 : w.heap.size < w4.heap.size := by omega
  have nec_0 : ¬ w.heap.size = w4.heap.size := by omega
  have nfc_0 : ¬ w4.heap.size = w.heap.size := by omega
  have ltc_1 : w.heap.size + 1 < w4.heap.size := by omega
  have nec_1 : ¬ w.heap.size + 1 = w4.heap.size := by omega
  have nfc_1 : ¬ w4.heap.size = w.heap.size + 1 := by omega
  have ltc_2 : b0 < w4.heap.size := by omega
  have nec_2 : ¬ b0 = w4.heap.size := by omega
  have nfc_2 : ¬ w4.heap.size = b0 := by omega
  have ltc_3 : b1 < w4.heap.size := by omega
  have nec_3 : ¬ b1 = w4.heap.size := by omega
  have nfc_3 : ¬ w4.heap.size = b1 := by omega
  have h2c := h2
  go_wp2_with fail
  refine (HD.out _).mono ?_
  rintro e w5 ⟨rfl, hb⟩
  have hk_new : Keeps (w4.heap.size + 1) [(⟨w4.heap.size, 0, none⟩, .int .i64 rt), (⟨w4.heap.size, 1, none⟩, .bool rc), (⟨w4.heap.size, 2, none⟩, .int .i64 rs), (⟨w4.heap.size, 3, none⟩, .int .i64 (v + 1)), (⟨b1, 0, none⟩, .int .i64 qt), (⟨b1, 1, none⟩, .bool qc), (⟨b1, 2, none⟩, .int .i64 qs), (⟨b1, 3, none⟩, .int .i64 (v + 1 + 1)), (⟨b0, 0, none⟩, .int .i64 pt), (⟨b0, 1, none⟩, .bool pc), (⟨b0, 2, none⟩, .int .i64 ps), (⟨b0, 3, none⟩, .int .i64 (v + 1)), (⟨w.heap.size, 0, none⟩, .int .i64 t), (⟨w.heap.size, 1, none⟩, .bool c), (⟨w.heap.size, 2, none⟩, .int .i64 s), (⟨w.heap.size, 3, none⟩, .int .i64 v), (⟨w.heap.size + 1, 0, none⟩, .int .i64 3), (⟨w.heap.size + 1, 1, none⟩, .int .i64 a0), (⟨w.heap.size + 1, 2, none⟩, .int .i64 3), (⟨w.heap.size + 1, 3, none⟩, .int .i64 a1)] w w5 := by
    refine Keeps.below ⟨?_, by first | (simp; done) | (simp; omega) | omega, by first | (simp [List.forall_mem_cons]; done) | (simp [List.forall_mem_cons]; omega), by simp [cellsAre_cons, cellsAre_nil, go_sem, World.cell?_alloc_past, *]⟩ hb
    (repeat (first | with_reducible apply Below.drew | with_reducible refine Below.setCell ?_ (by first | exact Nat.le_refl _ | (simp; done) | (simp; omega) | omega) _ | with_reducible refine Below.alloc ?_ (by first | exact Nat.le_refl _ | (simp; done) | (simp; omega) | omega) _ | with_reducible exact Below.refl _ _ | with_reducible assumption))
  clear hb
  try clear hk
  have hk := hk_new
  clear hk_new
  clear h1 h2 h3 h4
  have hk' := hk
  obtain ⟨h1, h2, h3, h4⟩ := hk'
  simp only [cellsAre_cons, cellsAre_nil, and_true] at h4
  clear ltc_0 ltc_1 ltc_2 ltc_3
  generalize w4.heap.size = b2 at *
  have ltz_0 : w.heap.size < w5.heap.size := by omega
  have nez_0 : ¬ w.heap.size = w5.heap.size := by omega
  have nfz_0 : ¬ w5.heap.size = w.heap.size := by omega
  have ltz_1 : w.heap.size + 1 < w5.heap.size := by omega
  have nez_1 : ¬ w.heap.size + 1 = w5.heap.size := by omega
  have nfz_1 : ¬ w5.heap.size = w.heap.size + 1 := by omega
  have ltz_2 : b0 < w5.heap.size := by omega
  have nez_2 : ¬ b0 = w5.heap.size := by omega
  have nfz_2 : ¬ w5.heap.size = b0 := by omega
  have ltz_3 : b1 < w5.heap.size := by omega
  have nez_3 : ¬ b1 = w5.heap.size := by omega
  have nfz_3 : ¬ w5.heap.size = b1 := by omega
  have ltz_4 : b2 < w5.heap.size := by omega
  have nez_4 : ¬ b2 = w5.heap.size := by omega
  have nfz_4 : ¬ w5.heap.size = b2 := by omega
  have h2z := h2
  go_wp2_with fail
  refine (works_any _).mono ?_
  rintro e w9 ⟨rfl, hb⟩
  have hbl : Below w.heap.size w w9 := by
    refine Below.trans ?_ (hb.mono (by simp; omega))
    (repeat (first | with_reducible apply Below.drew | with_reducible refine Below.setCell ?_ (by first | exact Nat.le_refl _ | (simp; done) | (simp; omega) | omega) _ | with_reducible refine Below.alloc ?_ (by first | exact Nat.le_refl _ | (simp; done) | (simp; omega) | omega) _ | with_reducible exact Below.refl _ _ | with_reducible assumption))
  go_wp2_with fail
  go_ret
  exact ⟨rfl, hbl⟩

set_option maxHeartbeats 8000000 in
theorem either_e33 (t s v a0 a1 : Int) (c : Bool)  (w : World) (hm : mayS ⟨t, c, s, v⟩ = true) (HA : Hid (∀ w, Calls Try.prog 28 #[.agg #[.int .i64 t, .bool c, .int .i64 s, .int .i64 v], .agg #[.int .i64 3, .int .i64 a0]] w fun e w' => e = .returned (.agg #[.int .i64 t, .bool c, .int .i64 (s - a0), .int .i64 (v + 1)]) ∧ Below w.heap.size w w')) (HB : Hid (∀ w, Calls Try.prog 28 #[.agg #[.int .i64 t, .bool c, .int .i64 (s - a0), .int .i64 (v + 1)], .agg #[.int .i64 3, .int .i64 a1]] w fun e w' => e = .returned (.agg #[.int .i64 t, .bool c, .int .i64 (s - a0 - a1), .int .i64 (v + 1 + 1)]) ∧ Below w.heap.size w w')) (HC : Hid (∀ w, Calls Try.prog 28 #[.agg #[.int .i64 t, .bool c, .int .i64 s, .int .i64 v], .agg #[.int .i64 3, .int .i64 a1]] w fun e w' => e = .returned (.agg #[.int .i64 t, .bool c, .int .i64 (s - a1), .int .i64 (v + 1)]) ∧ Below w.heap.size w w')) (HD : Hid (∀ w, Calls Try.prog 28 #[.agg #[.int .i64 t, .bool c, .int .i64 (s - a1), .int .i64 (v + 1)], .agg #[.int .i64 3, .int .i64 a0]] w fun e w' => e = .returned (.agg #[.int .i64 t, .bool c, .int .i64 (s - a1 - a0), .int .i64 (v + 1 + 1)]) ∧ Below w.heap.size w w')) (hn : (v + 1 == v) = false) (hn2 : (v + 1 + 1 == v + 1) = false) (q1 : -1099511627776 ≤ s - a0) (q2 : s - a0 ≤ 1099511627776) (q3 : -1099511627776 ≤ s - a0 - a1) (q4 : s - a0 - a1 ≤ 1099511627776) (q5 : s - a0 - a1 == s - a1 - a0) :
    Calls Try.prog 12 #[.agg #[.int .i64 t, .bool c, .int .i64 s, .int .i64 v], .agg #[.int .i64 3, .int .i64 a0, .int .i64 3, .int .i64 a1]] w fun e w' => e = .returned (.bool true) ∧ Below w.heap.size w w' := by
  go_enter Try.func12, Try.ntmps12
  go_wp2_with fail
  refine (law_may _ _ _ _ _).mono ?_
  rintro e w1 ⟨rfl, hb⟩
  have hk_new : Keeps (w.heap.size + 2) [(⟨w.heap.size, 0, none⟩, .int .i64 t), (⟨w.heap.size, 1, none⟩, .bool c), (⟨w.heap.size, 2, none⟩, .int .i64 s), (⟨w.heap.size, 3, none⟩, .int .i64 v), (⟨w.heap.size + 1, 0, none⟩, .int .i64 3), (⟨w.heap.size + 1, 1, none⟩, .int .i64 a0), (⟨w.heap.size + 1, 2, none⟩, .int .i64 3), (⟨w.heap.size + 1, 3, none⟩, .int .i64 a1)] w w1 := by
    refine Keeps.below ⟨?_, by first | (simp; done) | (simp; omega) | omega, by first | (simp [List.forall_mem_cons]; done) | (simp [List.forall_mem_cons]; omega), by simp [cellsAre_cons, cellsAre_nil, go_sem, World.cell?_alloc_past, *]⟩ hb
    (repeat (first | with_reducible apply Below.drew | with_reducible refine Below.setCell ?_ (by first | exact Nat.le_refl _ | (simp; done) | (simp; omega) | omega) _ | with_reducible refine Below.alloc ?_ (by first | exact Nat.le_refl _ | (simp; done) | (simp; omega) | omega) _ | with_reducible exact Below.refl _ _ | with_reducible assumption))
  clear hb
  try clear hk
  have hk := hk_new
  clear hk_new
  have hk' := hk
  obtain ⟨h1, h2, h3, h4⟩ := hk'
  simp only [cellsAre_cons, cellsAre_nil, and_true] at h4
  go_wp2_with fail
  refine (HA.out _).mono ?_
  rintro e w2 ⟨rfl, hb⟩
  have hk_new : Keeps (w.heap.size + 2) [(⟨w.heap.size, 0, none⟩, .int .i64 t), (⟨w.heap.size, 1, none⟩, .bool c), (⟨w.heap.size, 2, none⟩, .int .i64 s), (⟨w.heap.size, 3, none⟩, .int .i64 v), (⟨w.heap.size + 1, 0, none⟩, .int .i64 3), (⟨w.heap.size + 1, 1, none⟩, .int .i64 a0), (⟨w.heap.size + 1, 2, none⟩, .int .i64 3), (⟨w.heap.size + 1, 3, none⟩, .int .i64 a1)] w w2 := by
    refine Keeps.below ⟨?_, by first | (simp; done) | (simp; omega) | omega, by first | (simp [List.forall_mem_cons]; done) | (simp [List.forall_mem_cons]; omega), by simp [cellsAre_cons, cellsAre_nil, go_sem, World.cell?_alloc_past, *]⟩ hb
    (repeat (first | with_reducible apply Below.drew | with_reducible refine Below.setCell ?_ (by first | exact Nat.le_refl _ | (simp; done) | (simp; omega) | omega) _ | with_reducible refine Below.alloc ?_ (by first | exact Nat.le_refl _ | (simp; done) | (simp; omega) | omega) _ | with_reducible exact Below.refl _ _ | with_reducible assumption))
  clear hb
  try clear hk
  have hk := hk_new
  clear hk_new
  clear h1 h2 h3 h4
  have hk' := hk
  obtain ⟨h1, h2, h3, h4⟩ := hk'
  simp only [cellsAre_cons, cellsAre_nil, and_true] at h4
  have lta_0 : w.heap.size < w2.heap.size := by omega
  have nea_0 : ¬ w.heap.size = w2.heap.size := by omega
  have nfa_0 : ¬ w2.heap.size = w.heap.size := by omega
  have lta_1 : w.heap.size + 1 < w2.heap.size := by omega
  have nea_1 : ¬ w.heap.size + 1 = w2.heap.size := by omega
  have nfa_1 : ¬ w2.heap.size = w.heap.size + 1 := by omega
  have h2a := h2
  go_wp2_with fail
  refine (HB.out _).mono ?_
  rintro e w3 ⟨rfl, hb⟩
  have hk_new : Keeps (w2.heap.size + 1) [(⟨w2.heap.size, 0, none⟩, .int .i64 t), (⟨w2.heap.size, 1, none⟩, .bool c), (⟨w2.heap.size, 2, none⟩, .int .i64 (s - a0)), (⟨w2.heap.size, 3, none⟩, .int .i64 (v + 1)), (⟨w.heap.size, 0, none⟩, .int .i64 t), (⟨w.heap.size, 1, none⟩, .bool c), (⟨w.heap.size, 2, none⟩, .int .i64 s), (⟨w.heap.size, 3, none⟩, .int .i64 v), (⟨w.heap.size + 1, 0, none⟩, .int .i64 3), (⟨w.heap.size + 1, 1, none⟩, .int .i64 a0), (⟨w.heap.size + 1, 2, none⟩, .int .i64 3), (⟨w.heap.size + 1, 3, none⟩, .int .i64 a1)] w w3 := by
    refine Keeps.below ⟨?_, by first | (simp; done) | (simp; omega) | omega, by first | (simp [List.forall_mem_cons]; done) | (simp [List.forall_mem_cons]; omega), by simp [cellsAre_cons, cellsAre_nil, go_sem, World.cell?_alloc_past, *]⟩ hb
    (repeat (first | with_reducible apply Below.drew | with_reducible refine Below.setCell ?_ (by first | exact Nat.le_refl _ | (simp; done) | (simp; omega) | omega) _ | with_reducible refine Below.alloc ?_ (by first | exact Nat.le_refl _ | (simp; done) | (simp; omega) | omega) _ | with_reducible exact Below.refl _ _ | with_reducible assumption))
  clear hb
  try clear hk
  have hk := hk_new
  clear hk_new
  clear h1 h2 h3 h4
  have hk' := hk
  obtain ⟨h1, h2, h3, h4⟩ := hk'
  simp only [cellsAre_cons, cellsAre_nil, and_true] at h4
  clear lta_0 lta_1
  generalize w2.heap.size = b0 at *
  have ltb_0 : w.heap.size < w3.heap.size := by omega
  have neb_0 : ¬ w.heap.size = w3.heap.size := by omega
  have nfb_0 : ¬ w3.heap.size = w.heap.size := by omega
  have ltb_1 : w.heap.size + 1 < w3.heap.size := by omega
  have neb_1 : ¬ w.heap.size + 1 = w3.heap.size := by omega
  have nfb_1 : ¬ w3.heap.size = w.heap.size + 1 := by omega
  have ltb_2 : b0 < w3.heap.size := by omega
  have neb_2 : ¬ b0 = w3.heap.size := by omega
  have nfb_2 : ¬ w3.heap.size = b0 := by omega
  have h2b := h2
  go_wp2_with fail
  refine (HC.out _).mono ?_
  rintro e w4 ⟨rfl, hb⟩
  have hk_new : Keeps (w3.heap.size + 1) [(⟨w3.heap.size, 0, none⟩, .int .i64 t), (⟨w3.heap.size, 1, none⟩, .bool c), (⟨w3.heap.size, 2, none⟩, .int .i64 (s - a0 - a1)), (⟨w3.heap.size, 3, none⟩, .int .i64 (v + 1 + 1)), (⟨b0, 0, none⟩, .int .i64 t), (⟨b0, 1, none⟩, .bool c), (⟨b0, 2, none⟩, .int .i64 (s - a0)), (⟨b0, 3, none⟩, .int .i64 (v + 1)), (⟨w.heap.size, 0, none⟩, .int .i64 t), (⟨w.heap.size, 1, none⟩, .bool c), (⟨w.heap.size, 2, none⟩, .int .i64 s), (⟨w.heap.size, 3, none⟩, .int .i64 v), (⟨w.heap.size + 1, 0, none⟩, .int .i64 3), (⟨w.heap.size + 1, 1, none⟩, .int .i64 a0), (⟨w.heap.size + 1, 2, none⟩, .int .i64 3), (⟨w.heap.size + 1, 3, none⟩, .int .i64 a1)] w w4 := by
    refine Keeps.below ⟨?_, by first | (simp; done) | (simp; omega) | omega, by first | (simp [List.forall_mem_cons]; done) | (simp [List.forall_mem_cons]; omega), by simp [cellsAre_cons, cellsAre_nil, go_sem, World.cell?_alloc_past, *]⟩ hb
    (repeat (first | with_reducible apply Below.drew | with_reducible refine Below.setCell ?_ (by first | exact Nat.le_refl _ | (simp; done) | (simp; omega) | omega) _ | with_reducible refine Below.alloc ?_ (by first | exact Nat.le_refl _ | (simp; done) | (simp; omega) | omega) _ | with_reducible exact Below.refl _ _ | with_reducible assumption))
  clear hb
  try clear hk
  have hk := hk_new
  clear hk_new
  clear h1 h2 h3 h4
  have hk' := hk
  obtain ⟨h1, h2, h3, h4⟩ := hk'
  simp only [cellsAre_cons, cellsAre_nil, and_true] at h4
  clear ltb_0 ltb_1 ltb_2
  generalize w3.heap.size = b1 at *
  have ltc_0 : w.heap.size < w4.heap.size := by omega
  have nec_0 : ¬ w.heap.size = w4.heap.size := by omega
  have nfc_0 : ¬ w4.heap.size = w.heap.size := by omega
  have ltc_1 : w.heap.size + 1 < w4.heap.size := by omega
  have nec_1 : ¬ w.heap.size + 1 = w4.heap.size := by omega
  have nfc_1 : ¬ w4.heap.size = w.heap.size + 1 := by omega
  have ltc_2 : b0 < w4.heap.size := by omega
  have nec_2 : ¬ b0 = w4.heap.size := by omega
  have nfc_2 : ¬ w4.heap.size = b0 := by omega
  have ltc_3 : b1 < w4.heap.size := by omega
  have nec_3 : ¬ b1 = w4.heap.size := by omega
  have nfc_3 : ¬ w4.heap.size = b1 := by omega
  have h2c := h2
  go_wp2_with fail
  refine (HD.out _).mono ?_
  rintro e w5 ⟨rfl, hb⟩
  have hk_new : Keeps (w4.heap.size + 1) [(⟨w4.heap.size, 0, none⟩, .int .i64 t), (⟨w4.heap.size, 1, none⟩, .bool c), (⟨w4.heap.size, 2, none⟩, .int .i64 (s - a1)), (⟨w4.heap.size, 3, none⟩, .int .i64 (v + 1)), (⟨b1, 0, none⟩, .int .i64 t), (⟨b1, 1, none⟩, .bool c), (⟨b1, 2, none⟩, .int .i64 (s - a0 - a1)), (⟨b1, 3, none⟩, .int .i64 (v + 1 + 1)), (⟨b0, 0, none⟩, .int .i64 t), (⟨b0, 1, none⟩, .bool c), (⟨b0, 2, none⟩, .int .i64 (s - a0)), (⟨b0, 3, none⟩, .int .i64 (v + 1)), (⟨w.heap.size, 0, none⟩, .int .i64 t), (⟨w.heap.size, 1, none⟩, .bool c), (⟨w.heap.size, 2, none⟩, .int .i64 s), (⟨w.heap.size, 3, none⟩, .int .i64 v), (⟨w.heap.size + 1, 0, none⟩, .int .i64 3), (⟨w.heap.size + 1, 1, none⟩, .int .i64 a0), (⟨w.heap.size + 1, 2, none⟩, .int .i64 3), (⟨w.heap.size + 1, 3, none⟩, .int .i64 a1)] w w5 := by
    refine Keeps.below ⟨?_, by first | (simp; done) | (simp; omega) | omega, by first | (simp [List.forall_mem_cons]; done) | (simp [List.forall_mem_cons]; omega), by simp [cellsAre_cons, cellsAre_nil, go_sem, World.cell?_alloc_past, *]⟩ hb
    (repeat (first | with_reducible apply Below.drew | with_reducible refine Below.setCell ?_ (by first | exact Nat.le_refl _ | (simp; done) | (simp; omega) | omega) _ | with_reducible refine Below.alloc ?_ (by first | exact Nat.le_refl _ | (simp; done) | (simp; omega) | omega) _ | with_reducible exact Below.refl _ _ | with_reducible assumption))
  clear hb
  try clear hk
  have hk := hk_new
  clear hk_new
  clear h1 h2 h3 h4
  have hk' := hk
  obtain ⟨h1, h2, h3, h4⟩ := hk'
  simp only [cellsAre_cons, cellsAre_nil, and_true] at h4
  clear ltc_0 ltc_1 ltc_2 ltc_3
  generalize w4.heap.size = b2 at *
  have ltz_0 : w.heap.size < w5.heap.size := by omega
  have nez_0 : ¬ w.heap.size = w5.heap.size := by omega
  have nfz_0 : ¬ w5.heap.size = w.heap.size := by omega
  have ltz_1 : w.heap.size + 1 < w5.heap.size := by omega
  have nez_1 : ¬ w.heap.size + 1 = w5.heap.size := by omega
  have nfz_1 : ¬ w5.heap.size = w.heap.size + 1 := by omega
  have ltz_2 : b0 < w5.heap.size := by omega
  have nez_2 : ¬ b0 = w5.heap.size := by omega
  have nfz_2 : ¬ w5.heap.size = b0 := by omega
  have ltz_3 : b1 < w5.heap.size := by omega
  have nez_3 : ¬ b1 = w5.heap.size := by omega
  have nfz_3 : ¬ w5.heap.size = b1 := by omega
  have ltz_4 : b2 < w5.heap.size := by omega
  have nez_4 : ¬ b2 = w5.heap.size := by omega
  have nfz_4 : ¬ w5.heap.size = b2 := by omega
  have h2z := h2
  go_wp2_with fail
  refine wp_loop_rounds 3 ?_
  rw [rounds_succ]
  go_wp2_with fail
  rw [rounds_succ]
  go_wp2_with fail
  rw [rounds_succ]
  go_wp2_with fail
  refine (works_any _).mono ?_
  rintro e w9 ⟨rfl, hb⟩
  have hbl : Below w.heap.size w w9 := by
    refine Below.trans ?_ (hb.mono (by simp; omega))
    (repeat (first | with_reducible apply Below.drew | with_reducible refine Below.setCell ?_ (by first | exact Nat.le_refl _ | (simp; done) | (simp; omega) | omega) _ | with_reducible refine Below.alloc ?_ (by first | exact Nat.le_refl _ | (simp; done) | (simp; omega) | omega) _ | with_reducible exact Below.refl _ _ | with_reducible assumption))
  go_wp2_with fail
  go_ret
  exact ⟨rfl, hbl⟩
end Go.Proofs.Ytigkfekidmjpbaa
