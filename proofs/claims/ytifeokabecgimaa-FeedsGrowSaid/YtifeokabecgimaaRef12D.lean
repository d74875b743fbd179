/-
  The walk over the document's 'Decide' for aggregates.
-/
import Derived.Test.YtifeokabecgimaaProg
import Derived.Test.YtifeokabecgimaaSeq
import Derived.WalkKit
import Derived.WalkSpells
import Derived.WalkLawsBesides
import Derived.RowKit3
import Derived.Lib.Hide
import Derived.Test.YtifeokabecgimaaRef12A
set_option linter.unusedSimpArgs false
set_option linter.unusedVariables false
set_option maxRecDepth 100000
namespace Go.Proofs.Ytifeokabecgimaa
open Go.RowKit Go.Sq Go.Arch

set_option maxHeartbeats 1000000 in
theorem ref_decide_A (t s v x0 x1 x2 x3 x4 : Int) (c : Bool) (w : World) (hm : mayS ⟨t, c, s, v⟩ = false) :
    Calls Try.prog 33 #[.agg #[.int .i64 t, .bool c, .int .i64 s, .int .i64 v], .agg #[.int .i64 x0, .int .i64 x1, .int .i64 x2, .int .i64 x3, .int .i64 x4]] w fun e w' =>
      e = .returned (.agg #[.int .i64 7, .int .i64 0, .slice none 0 0]) ∧ Below w.heap.size w w' := by
  go_enter Try.func33, Try.ntmps33
  go_wp2_with fail
  refine (ref_may _ _ _ _ _).mono ?_
  rintro e w1 ⟨rfl, hb⟩
  have hk_new : Keeps (w.heap.size + 3) [(⟨w.heap.size, 0, none⟩, .int .i64 t), (⟨w.heap.size, 1, none⟩, .bool c), (⟨w.heap.size, 2, none⟩, .int .i64 s), (⟨w.heap.size, 3, none⟩, .int .i64 v), (⟨w.heap.size + 1, 0, none⟩, .int .i64 x0), (⟨w.heap.size + 1, 1, none⟩, .int .i64 x1), (⟨w.heap.size + 1, 2, none⟩, .int .i64 x2), (⟨w.heap.size + 1, 3, none⟩, .int .i64 x3), (⟨w.heap.size + 1, 4, none⟩, .int .i64 x4), (⟨w.heap.size + 2, 0, none⟩, .int .i64 0), (⟨w.heap.size + 2, 1, none⟩, .int .i64 0), (⟨w.heap.size + 2, 2, none⟩, .slice none 0 0)] w w1 := by
    refine Keeps.below ⟨?_, by first | (simp; done) | (simp; omega) | omega, by first | (simp [List.forall_mem_cons]; done) | (simp [List.forall_mem_cons]; omega), by simp [cellsAre_cons, cellsAre_nil, go_sem, World.cell?_alloc_past, *]⟩ hb
    (repeat (first | with_reducible apply Below.drew | with_reducible refine Below.setCell ?_ (by first | exact Nat.le_refl _ | (simp; done) | (simp; omega) | omega) _ | with_reducible refine Below.alloc ?_ (by first | exact Nat.le_refl _ | (simp; done) | (simp; omega) | omega) _ | with_reducible exact Below.refl _ _ | with_reducible assumption))
  clear hb
  try clear hk
  have hk := hk_new
  clear hk_new
  have hk' := hk
  obtain ⟨h1, h2, h3, h4⟩ := hk'
  simp only [cellsAre_cons, cellsAre_nil, and_true] at h4
  go_wp2
  apply ret_of
  · simp only [results, Try.results33]
    go_simp
    with_reducible rfl
  refine ⟨rfl, ?_⟩
  exact ⟨rfl, by (repeat (first | with_reducible apply Below.drew | with_reducible refine Below.setCell ?_ (by first | exact Nat.le_refl _ | (simp; done) | (simp; omega) | omega) _ | with_reducible refine Below.alloc ?_ (by first | exact Nat.le_refl _ | (simp; done) | (simp; omega) | omega) _ | with_reducible exact Below.refl _ _ | with_reducible assumption))⟩

set_option maxHeartbeats 1000000 in
theorem ref_decide_B (t s v x0 x1 x2 x3 x4 : Int) (c : Bool) (w : World) (hm : mayS ⟨t, c, s, v⟩ = true) (ho : ordOk ⟨x0, x1, x2, x3, x4⟩ = false) :
    Calls Try.prog 33 #[.agg #[.int .i64 t, .bool c, .int .i64 s, .int .i64 v], .agg #[.int .i64 x0, .int .i64 x1, .int .i64 x2, .int .i64 x3, .int .i64 x4]] w fun e w' =>
      e = .returned (.agg #[.int .i64 7, .int .i64 v, .slice none 0 0]) ∧ Below w.heap.size w w' := by
  go_enter Try.func33, Try.ntmps33
  go_wp2_with fail
  refine (ref_may _ _ _ _ _).mono ?_
  rintro e w1 ⟨rfl, hb⟩
  have hk_new : Keeps (w.heap.size + 3) [(⟨w.heap.size, 0, none⟩, .int .i64 t), (⟨w.heap.size, 1, none⟩, .bool c), (⟨w.heap.size, 2, none⟩, .int .i64 s), (⟨w.heap.size, 3, none⟩, .int .i64 v), (⟨w.heap.size + 1, 0, none⟩, .int .i64 x0), (⟨w.heap.size + 1, 1, none⟩, .int .i64 x1), (⟨w.heap.size + 1, 2, none⟩, .int .i64 x2), (⟨w.heap.size + 1, 3, none⟩, .int .i64 x3), (⟨w.heap.size + 1, 4, none⟩, .int .i64 x4), (⟨w.heap.size + 2, 0, none⟩, .int .i64 0), (⟨w.heap.size + 2, 1, none⟩, .int .i64 0), (⟨w.heap.size + 2, 2, none⟩, .slice none 0 0)] w w1 := by
    refine Keeps.below ⟨?_, by first | (simp; done) | (simp; omega) | omega, by first | (simp [List.forall_mem_cons]; done) | (simp [List.forall_mem_cons]; omega), by simp [cellsAre_cons, cellsAre_nil, go_sem, World.cell?_alloc_past, *]⟩ hb
    (repeat (first | with_reducible apply Below.drew | with_reducible refine Below.setCell ?_ (by first | exact Nat.le_refl _ | (simp; done) | (simp; omega) | omega) _ | with_reducible refine Below.alloc ?_ (by first | exact Nat.le_refl _ | (simp; done) | (simp; omega) | omega) _ | with_reducible exact Below.refl _ _ | with_reducible assumption))
  clear hb
  try clear hk
  have hk := hk_new
  clear hk_new
  have hk' := hk
  obtain ⟨h1, h2, h3, h4⟩ := hk'
  simp only [cellsAre_cons, cellsAre_nil, and_true] at h4
  go_wp2_with fail
  refine (ref_may09 _ _ _ _ _ _).mono ?_
  rintro e w2 ⟨rfl, hb⟩
  have hk_new : Keeps (w.heap.size + 3) [(⟨w.heap.size, 0, none⟩, .int .i64 t), (⟨w.heap.size, 1, none⟩, .bool c), (⟨w.heap.size, 2, none⟩, .int .i64 s), (⟨w.heap.size, 3, none⟩, .int .i64 v), (⟨w.heap.size + 1, 0, none⟩, .int .i64 x0), (⟨w.heap.size + 1, 1, none⟩, .int .i64 x1), (⟨w.heap.size + 1, 2, none⟩, .int .i64 x2), (⟨w.heap.size + 1, 3, none⟩, .int .i64 x3), (⟨w.heap.size + 1, 4, none⟩, .int .i64 x4), (⟨w.heap.size + 2, 0, none⟩, .int .i64 0), (⟨w.heap.size + 2, 1, none⟩, .int .i64 0), (⟨w.heap.size + 2, 2, none⟩, .slice none 0 0)] w w2 := by
    refine Keeps.below ⟨?_, by first | (simp; done) | (simp; omega) | omega, by first | (simp [List.forall_mem_cons]; done) | (simp [List.forall_mem_cons]; omega), by simp [cellsAre_cons, cellsAre_nil, go_sem, World.cell?_alloc_past, *]⟩ hb
    (repeat (first | with_reducible apply Below.drew | with_reducible refine Below.setCell ?_ (by first | exact Nat.le_refl _ | (simp; done) | (simp; omega) | omega) _ | with_reducible refine Below.alloc ?_ (by first | exact Nat.le_refl _ | (simp; done) | (simp; omega) | omega) _ | with_reducible exact Below.refl _ _ | with_reducible assumption))
  clear hb
  try clear hk
  have hk := hk_new
  clear hk_new
  clear h1 h2 h3 h4
  have hk' := hk
  obtain ⟨h1, h2, h3, h4⟩ := hk'
  simp only [cellsAre_cons, cellsAre_nil, and_true] at h4
  go_wp2
  apply ret_of
  · simp only [results, Try.results33]
    go_simp
    with_reducible rfl
  refine ⟨rfl, ?_⟩
  exact ⟨rfl, by (repeat (first | with_reducible apply Below.drew | with_reducible refine Below.setCell ?_ (by first | exact Nat.le_refl _ | (simp; done) | (simp; omega) | omega) _ | with_reducible refine Below.alloc ?_ (by first | exact Nat.le_refl _ | (simp; done) | (simp; omega) | omega) _ | with_reducible exact Below.refl _ _ | with_reducible assumption))⟩

set_option maxHeartbeats 1000000 in
theorem ref_decide_C (t s v x0 x1 x2 x3 x4 : Int) (c : Bool) (w : World) (hm : mayS ⟨t, c, s, v⟩ = true) (ho : ordOk ⟨x0, x1, x2, x3, x4⟩ = true) (hc1 : 0 ≤ x2) (hc2 : (x2 != v) = true) :
    Calls Try.prog 33 #[.agg #[.int .i64 t, .bool c, .int .i64 s, .int .i64 v], .agg #[.int .i64 x0, .int .i64 x1, .int .i64 x2, .int .i64 x3, .int .i64 x4]] w fun e w' =>
      e = .returned (.agg #[.int .i64 2, .int .i64 v, .slice none 0 0]) ∧ Below w.heap.size w w' := by
  go_enter Try.func33, Try.ntmps33
  go_wp2_with fail
  refine (ref_may _ _ _ _ _).mono ?_
  rintro e w1 ⟨rfl, hb⟩
  have hk_new : Keeps (w.heap.size + 3) [(⟨w.heap.size, 0, none⟩, .int .i64 t), (⟨w.heap.size, 1, none⟩, .bool c), (⟨w.heap.size, 2, none⟩, .int .i64 s), (⟨w.heap.size, 3, none⟩, .int .i64 v), (⟨w.heap.size + 1, 0, none⟩, .int .i64 x0), (⟨w.heap.size + 1, 1, none⟩, .int .i64 x1), (⟨w.heap.size + 1, 2, none⟩, .int .i64 x2), (⟨w.heap.size + 1, 3, none⟩, .int .i64 x3), (⟨w.heap.size + 1, 4, none⟩, .int .i64 x4), (⟨w.heap.size + 2, 0, none⟩, .int .i64 0), (⟨w.heap.size + 2, 1, none⟩, .int .i64 0), (⟨w.heap.size + 2, 2, none⟩, .slice none 0 0)] w w1 := by
    refine Keeps.below ⟨?_, by first | (simp; done) | (simp; omega) | omega, by first | (simp [List.forall_mem_cons]; done) | (simp [List.forall_mem_cons]; omega), by simp [cellsAre_cons, cellsAre_nil, go_sem, World.cell?_alloc_past, *]⟩ hb
    (repeat (first | with_reducible apply Below.drew | with_reducible refine Below.setCell ?_ (by first | exact Nat.le_refl _ | (simp; done) | (simp; omega) | omega) _ | with_reducible refine Below.alloc ?_ (by first | exact Nat.le_refl _ | (simp; done) | (simp; omega) | omega) _ | with_reducible exact Below.refl _ _ | with_reducible assumption))
  clear hb
  try clear hk
  have hk := hk_new
  clear hk_new
  have hk' := hk
  obtain ⟨h1, h2, h3, h4⟩ := hk'
  simp only [cellsAre_cons, cellsAre_nil, and_true] at h4
  go_wp2_with fail
  refine (ref_may09 _ _ _ _ _ _).mono ?_
  rintro e w2 ⟨rfl, hb⟩
  have hk_new : Keeps (w.heap.size + 3) [(⟨w.heap.size, 0, none⟩, .int .i64 t), (⟨w.heap.size, 1, none⟩, .bool c), (⟨w.heap.size, 2, none⟩, .int .i64 s), (⟨w.heap.size, 3, none⟩, .int .i64 v), (⟨w.heap.size + 1, 0, none⟩, .int .i64 x0), (⟨w.heap.size + 1, 1, none⟩, .int .i64 x1), (⟨w.heap.size + 1, 2, none⟩, .int .i64 x2), (⟨w.heap.size + 1, 3, none⟩, .int .i64 x3), (⟨w.heap.size + 1, 4, none⟩, .int .i64 x4), (⟨w.heap.size + 2, 0, none⟩, .int .i64 0), (⟨w.heap.size + 2, 1, none⟩, .int .i64 0), (⟨w.heap.size + 2, 2, none⟩, .slice none 0 0)] w w2 := by
    refine Keeps.below ⟨?_, by first | (simp; done) | (simp; omega) | omega, by first | (simp [List.forall_mem_cons]; done) | (simp [List.forall_mem_cons]; omega), by simp [cellsAre_cons, cellsAre_nil, go_sem, World.cell?_alloc_past, *]⟩ hb
    (repeat (first | with_reducible apply Below.drew | with_reducible refine Below.setCell ?_ (by first | exact Nat.le_refl _ | (simp; done) | (simp; omega) | omega) _ | with_reducible refine Below.alloc ?_ (by first | exact Nat.le_refl _ | (simp; done) | (simp; omega) | omega) _ | with_reducible exact Below.refl _ _ | with_reducible assumption))
  clear hb
  try clear hk
  have hk := hk_new
  clear hk_new
  clear h1 h2 h3 h4
  have hk' := hk
  obtain ⟨h1, h2, h3, h4⟩ := hk'
  simp only [cellsAre_cons, cellsAre_nil, and_true] at h4
  go_wp2
  apply ret_of
  · simp only [results, Try.results33]
    go_simp
    with_reducible rfl
  refine ⟨rfl, ?_⟩
  exact ⟨rfl, by (repeat (first | with_reducible apply Below.drew | with_reducible refine Below.setCell ?_ (by first | exact Nat.le_refl _ | (simp; done) | (simp; omega) | omega) _ | with_reducible refine Below.alloc ?_ (by first | exact Nat.le_refl _ | (simp; done) | (simp; omega) | omega) _ | with_reducible exact Below.refl _ _ | with_reducible assumption))⟩

set_option maxHeartbeats 1000000 in
theorem ref_decide_D0a (t s v x0 x1 x2 x3 x4 : Int) (c : Bool) (w : World) (hm : mayS ⟨t, c, s, v⟩ = true) (ho : ordOk ⟨x0, x1, x2, x3, x4⟩ = true) (hx : (x3 == 4) = false) (hc1 : x2 < 0) (hcm : comesS ⟨t, c, s, v⟩ ⟨x3, x4⟩ = false) :
    Calls Try.prog 33 #[.agg #[.int .i64 t, .bool c, .int .i64 s, .int .i64 v], .agg #[.int .i64 x0, .int .i64 x1, .int .i64 x2, .int .i64 x3, .int .i64 x4]] w fun e w' =>
      e = .returned (.agg #[.int .i64 3, .int .i64 v, .slice none 0 0]) ∧ Below w.heap.size w w' := by
  obtain ⟨q1, q2, q3, q4⟩ := mayS_bounds hm
  go_enter Try.func33, Try.ntmps33
  go_wp2_with fail
  refine (ref_may _ _ _ _ _).mono ?_
  rintro e w1 ⟨rfl, hb⟩
  have hk_new : Keeps (w.heap.size + 3) [(⟨w.heap.size, 0, none⟩, .int .i64 t), (⟨w.heap.size, 1, none⟩, .bool c), (⟨w.heap.size, 2, none⟩, .int .i64 s), (⟨w.heap.size, 3, none⟩, .int .i64 v), (⟨w.heap.size + 1, 0, none⟩, .int .i64 x0), (⟨w.heap.size + 1, 1, none⟩, .int .i64 x1), (⟨w.heap.size + 1, 2, none⟩, .int .i64 x2), (⟨w.heap.size + 1, 3, none⟩, .int .i64 x3), (⟨w.heap.size + 1, 4, none⟩, .int .i64 x4), (⟨w.heap.size + 2, 0, none⟩, .int .i64 0), (⟨w.heap.size + 2, 1, none⟩, .int .i64 0), (⟨w.heap.size + 2, 2, none⟩, .slice none 0 0)] w w1 := by
    refine Keeps.below ⟨?_, by first | (simp; done) | (simp; omega) | omega, by first | (simp [List.forall_mem_cons]; done) | (simp [List.forall_mem_cons]; omega), by simp [cellsAre_cons, cellsAre_nil, go_sem, World.cell?_alloc_past, *]⟩ hb
    (repeat (first | with_reducible apply Below.drew | with_reducible refine Below.setCell ?_ (by first | exact Nat.le_refl _ | (simp; done) | (simp; omega) | omega) _ | with_reducible refine Below.alloc ?_ (by first | exact Nat.le_refl _ | (simp; done) | (simp; omega) | omega) _ | with_reducible exact Below.refl _ _ | with_reducible assumption))
  clear hb
  try clear hk
  have hk := hk_new
  clear hk_new
  have hk' := hk
  obtain ⟨h1, h2, h3, h4⟩ := hk'
  simp only [cellsAre_cons, cellsAre_nil, and_true] at h4
  go_wp2_with fail
  refine (ref_may09 _ _ _ _ _ _).mono ?_
  rintro e w2 ⟨rfl, hb⟩
  have hk_new : Keeps (w.heap.size + 3) [(⟨w.heap.size, 0, none⟩, .int .i64 t), (⟨w.heap.size, 1, none⟩, .bool c), (⟨w.heap.size, 2, none⟩, .int .i64 s), (⟨w.heap.size, 3, none⟩, .int .i64 v), (⟨w.heap.size + 1, 0, none⟩, .int .i64 x0), (⟨w.heap.size + 1, 1, none⟩, .int .i64 x1), (⟨w.heap.size + 1, 2, none⟩, .int .i64 x2), (⟨w.heap.size + 1, 3, none⟩, .int .i64 x3), (⟨w.heap.size + 1, 4, none⟩, .int .i64 x4), (⟨w.heap.size + 2, 0, none⟩, .int .i64 0), (⟨w.heap.size + 2, 1, none⟩, .int .i64 0), (⟨w.heap.size + 2, 2, none⟩, .slice none 0 0)] w w2 := by
    refine Keeps.below ⟨?_, by first | (simp; done) | (simp; omega) | omega, by first | (simp [List.forall_mem_cons]; done) | (simp [List.forall_mem_cons]; omega), by simp [cellsAre_cons, cellsAre_nil, go_sem, World.cell?_alloc_past, *]⟩ hb
    (repeat (first | with_reducible apply Below.drew | with_reducible refine Below.setCell ?_ (by first | exact Nat.le_refl _ | (simp; done) | (simp; omega) | omega) _ | with_reducible refine Below.alloc ?_ (by first | exact Nat.le_refl _ | (simp; done) | (simp; omega) | omega) _ | with_reducible exact Below.refl _ _ | with_reducible assumption))
  clear hb
  try clear hk
  have hk := hk_new
  clear hk_new
  clear h1 h2 h3 h4
  have hk' := hk
  obtain ⟨h1, h2, h3, h4⟩ := hk'
  simp only [cellsAre_cons, cellsAre_nil, and_true] at h4
  have h2c := h2
  have lt0_b : w.heap.size < w2.heap.size := by omega
  have n0_b : ¬ w.heap.size = w2.heap.size := by omega
  have m0_b : ¬ w2.heap.size = w.heap.size := by omega
  have lt1_b : w.heap.size + 1 < w2.heap.size := by omega
  have n1_b : ¬ w.heap.size + 1 = w2.heap.size := by omega
  have m1_b : ¬ w2.heap.size = w.heap.size + 1 := by omega
  have lt2_b : w.heap.size + 1 + 1 < w2.heap.size := by omega
  have n2_b : ¬ w.heap.size + 1 + 1 = w2.heap.size := by omega
  have m2_b : ¬ w2.heap.size = w.heap.size + 1 + 1 := by omega
  have lt2p_b : w.heap.size + 2 < w2.heap.size := by omega
  have n2p_b : ¬ w.heap.size + 2 = w2.heap.size := by omega
  have m2p_b : ¬ w2.heap.size = w.heap.size + 2 := by omega
  go_wp2_with fail
  refine (ref_comes _ _ _ _ _ _ _ q1 q2).mono ?_
  rintro e w3 ⟨rfl, hb⟩
  have hk_new : Keeps (w2.heap.size + 1) [(⟨w2.heap.size, 0, none⟩, .int .i64 x3), (⟨w2.heap.size, 1, none⟩, .int .i64 x4), (⟨w.heap.size, 0, none⟩, .int .i64 t), (⟨w.heap.size, 1, none⟩, .bool c), (⟨w.heap.size, 2, none⟩, .int .i64 s), (⟨w.heap.size, 3, none⟩, .int .i64 v), (⟨w.heap.size + 1, 0, none⟩, .int .i64 x0), (⟨w.heap.size + 1, 1, none⟩, .int .i64 x1), (⟨w.heap.size + 1, 2, none⟩, .int .i64 x2), (⟨w.heap.size + 1, 3, none⟩, .int .i64 x3), (⟨w.heap.size + 1, 4, none⟩, .int .i64 x4), (⟨w.heap.size + 2, 0, none⟩, .int .i64 0), (⟨w.heap.size + 2, 1, none⟩, .int .i64 0), (⟨w.heap.size + 2, 2, none⟩, .slice none 0 0)] w w3 := by
    refine Keeps.below ⟨?_, by first | (simp; done) | (simp; omega) | omega, by first | (simp [List.forall_mem_cons]; done) | (simp [List.forall_mem_cons]; omega), by simp [cellsAre_cons, cellsAre_nil, go_sem, World.cell?_alloc_past, *]⟩ hb
    (repeat (first | with_reducible apply Below.drew | with_reducible refine Below.setCell ?_ (by first | exact Nat.le_refl _ | (simp; done) | (simp; omega) | omega) _ | with_reducible refine Below.alloc ?_ (by first | exact Nat.le_refl _ | (simp; done) | (simp; omega) | omega) _ | with_reducible exact Below.refl _ _ | with_reducible assumption))
  clear hb
  try clear hk
  have hk := hk_new
  clear hk_new
  clear h1 h2 h3 h4
  have hk' := hk
  obtain ⟨h1, h2, h3, h4⟩ := hk'
  simp only [cellsAre_cons, cellsAre_nil, and_true] at h4
  clear lt0_b lt1_b lt2_b lt2p_b
  generalize w2.heap.size = b at *
  go_wp2
  apply ret_of
  · simp only [results, Try.results33]
    go_simp
    with_reducible rfl
  refine ⟨rfl, ?_⟩
  exact ⟨rfl, by (repeat (first | with_reducible apply Below.drew | with_reducible refine Below.setCell ?_ (by first | exact Nat.le_refl _ | (simp; done) | (simp; omega) | omega) _ | with_reducible refine Below.alloc ?_ (by first | exact Nat.le_refl _ | (simp; done) | (simp; omega) | omega) _ | with_reducible exact Below.refl _ _ | with_reducible assumption))⟩

set_option maxHeartbeats 1000000 in
theorem ref_decide_E0a (t s v x0 x1 x2 x3 x4 : Int) (c : Bool) (w : World) (hm : mayS ⟨t, c, s, v⟩ = true) (ho : ordOk ⟨x0, x1, x2, x3, x4⟩ = true) (hx : (x3 == 4) = false) (hc1 : x2 < 0) (hcm : comesS ⟨t, c, s, v⟩ ⟨x3, x4⟩ = true) :
    Calls Try.prog 33 #[.agg #[.int .i64 t, .bool c, .int .i64 s, .int .i64 v], .agg #[.int .i64 x0, .int .i64 x1, .int .i64 x2, .int .i64 x3, .int .i64 x4]] w fun e w' =>
      OutNew w w' (v + 1) x3 x4 e := by
  obtain ⟨q1, q2, q3, q4⟩ := mayS_bounds hm
  have q5 : v < 1099511627776 := by simp [comesS] at hcm; exact hcm.1
  go_enter Try.func33, Try.ntmps33
  go_wp2_with fail
  refine (ref_may _ _ _ _ _).mono ?_
  rintro e w1 ⟨rfl, hb⟩
  have hk_new : Keeps (w.heap.size + 3) [(⟨w.heap.size, 0, none⟩, .int .i64 t), (⟨w.heap.size, 1, none⟩, .bool c), (⟨w.heap.size, 2, none⟩, .int .i64 s), (⟨w.heap.size, 3, none⟩, .int .i64 v), (⟨w.heap.size + 1, 0, none⟩, .int .i64 x0), (⟨w.heap.size + 1, 1, none⟩, .int .i64 x1), (⟨w.heap.size + 1, 2, none⟩, .int .i64 x2), (⟨w.heap.size + 1, 3, none⟩, .int .i64 x3), (⟨w.heap.size + 1, 4, none⟩, .int .i64 x4), (⟨w.heap.size + 2, 0, none⟩, .int .i64 0), (⟨w.heap.size + 2, 1, none⟩, .int .i64 0), (⟨w.heap.size + 2, 2, none⟩, .slice none 0 0)] w w1 := by
    refine Keeps.below ⟨?_, by first | (simp; done) | (simp; omega) | omega, by first | (simp [List.forall_mem_cons]; done) | (simp [List.forall_mem_cons]; omega), by simp [cellsAre_cons, cellsAre_nil, go_sem, World.cell?_alloc_past, *]⟩ hb
    (repeat (first | with_reducible apply Below.drew | with_reducible refine Below.setCell ?_ (by first | exact Nat.le_refl _ | (simp; done) | (simp; omega) | omega) _ | with_reducible refine Below.alloc ?_ (by first | exact Nat.le_refl _ | (simp; done) | (simp; omega) | omega) _ | with_reducible exact Below.refl _ _ | with_reducible assumption))
  clear hb
  try clear hk
  have hk := hk_new
  clear hk_new
  have hk' := hk
  obtain ⟨h1, h2, h3, h4⟩ := hk'
  simp only [cellsAre_cons, cellsAre_nil, and_true] at h4
  go_wp2_with fail
  refine (ref_may09 _ _ _ _ _ _).mono ?_
  rintro e w2 ⟨rfl, hb⟩
  have hk_new : Keeps (w.heap.size + 3) [(⟨w.heap.size, 0, none⟩, .int .i64 t), (⟨w.heap.size, 1, none⟩, .bool c), (⟨w.heap.size, 2, none⟩, .int .i64 s), (⟨w.heap.size, 3, none⟩, .int .i64 v), (⟨w.heap.size + 1, 0, none⟩, .int .i64 x0), (⟨w.heap.size + 1, 1, none⟩, .int .i64 x1), (⟨w.heap.size + 1, 2, none⟩, .int .i64 x2), (⟨w.heap.size + 1, 3, none⟩, .int .i64 x3), (⟨w.heap.size + 1, 4, none⟩, .int .i64 x4), (⟨w.heap.size + 2, 0, none⟩, .int .i64 0), (⟨w.heap.size + 2, 1, none⟩, .int .i64 0), (⟨w.heap.size + 2, 2, none⟩, .slice none 0 0)] w w2 := by
    refine Keeps.below ⟨?_, by first | (simp; done) | (simp; omega) | omega, by first | (simp [List.forall_mem_cons]; done) | (simp [List.forall_mem_cons]; omega), by simp [cellsAre_cons, cellsAre_nil, go_sem, World.cell?_alloc_past, *]⟩ hb
    (repeat (first | with_reducible apply Below.drew | with_reducible refine Below.setCell ?_ (by first | exact Nat.le_refl _ | (simp; done) | (simp; omega) | omega) _ | with_reducible refine Below.alloc ?_ (by first | exact Nat.le_refl _ | (simp; done) | (simp; omega) | omega) _ | with_reducible exact Below.refl _ _ | with_reducible assumption))
  clear hb
  try clear hk
  have hk := hk_new
  clear hk_new
  clear h1 h2 h3 h4
  have hk' := hk
  obtain ⟨h1, h2, h3, h4⟩ := hk'
  simp only [cellsAre_cons, cellsAre_nil, and_true] at h4
  have h2c := h2
  have lt0_b : w.heap.size < w2.heap.size := by omega
  have n0_b : ¬ w.heap.size = w2.heap.size := by omega
  have m0_b : ¬ w2.heap.size = w.heap.size := by omega
  have lt1_b : w.heap.size + 1 < w2.heap.size := by omega
  have n1_b : ¬ w.heap.size + 1 = w2.heap.size := by omega
  have m1_b : ¬ w2.heap.size = w.heap.size + 1 := by omega
  have lt2_b : w.heap.size + 1 + 1 < w2.heap.size := by omega
  have n2_b : ¬ w.heap.size + 1 + 1 = w2.heap.size := by omega
  have m2_b : ¬ w2.heap.size = w.heap.size + 1 + 1 := by omega
  have lt2p_b : w.heap.size + 2 < w2.heap.size := by omega
  have n2p_b : ¬ w.heap.size + 2 = w2.heap.size := by omega
  have m2p_b : ¬ w2.heap.size = w.heap.size + 2 := by omega
  go_wp2_with fail
  refine (ref_comes _ _ _ _ _ _ _ q1 q2).mono ?_
  rintro e w3 ⟨rfl, hb⟩
  have hk_new : Keeps (w2.heap.size + 1) [(⟨w2.heap.size, 0, none⟩, .int .i64 x3), (⟨w2.heap.size, 1, none⟩, .int .i64 x4), (⟨w.heap.size, 0, none⟩, .int .i64 t), (⟨w.heap.size, 1, none⟩, .bool c), (⟨w.heap.size, 2, none⟩, .int .i64 s), (⟨w.heap.size, 3, none⟩, .int .i64 v), (⟨w.heap.size + 1, 0, none⟩, .int .i64 x0), (⟨w.heap.size + 1, 1, none⟩, .int .i64 x1), (⟨w.heap.size + 1, 2, none⟩, .int .i64 x2), (⟨w.heap.size + 1, 3, none⟩, .int .i64 x3), (⟨w.heap.size + 1, 4, none⟩, .int .i64 x4), (⟨w.heap.size + 2, 0, none⟩, .int .i64 0), (⟨w.heap.size + 2, 1, none⟩, .int .i64 0), (⟨w.heap.size + 2, 2, none⟩, .slice none 0 0)] w w3 := by
    refine Keeps.below ⟨?_, by first | (simp; done) | (simp; omega) | omega, by first | (simp [List.forall_mem_cons]; done) | (simp [List.forall_mem_cons]; omega), by simp [cellsAre_cons, cellsAre_nil, go_sem, World.cell?_alloc_past, *]⟩ hb
    (repeat (first | with_reducible apply Below.drew | with_reducible refine Below.setCell ?_ (by first | exact Nat.le_refl _ | (simp; done) | (simp; omega) | omega) _ | with_reducible refine Below.alloc ?_ (by first | exact Nat.le_refl _ | (simp; done) | (simp; omega) | omega) _ | with_reducible exact Below.refl _ _ | with_reducible assumption))
  clear hb
  try clear hk
  have hk := hk_new
  clear hk_new
  clear h1 h2 h3 h4
  have hk' := hk
  obtain ⟨h1, h2, h3, h4⟩ := hk'
  simp only [cellsAre_cons, cellsAre_nil, and_true] at h4
  clear lt0_b lt1_b lt2_b lt2p_b
  generalize w2.heap.size = b at *
  have ltb : b < w3.heap.size := by omega
  have nb' : ¬ b = w3.heap.size := by omega
  have mb' : ¬ w3.heap.size = b := by omega
  have lt0_f : w.heap.size < w3.heap.size := by omega
  have n0_f : ¬ w.heap.size = w3.heap.size := by omega
  have m0_f : ¬ w3.heap.size = w.heap.size := by omega
  have lt1_f : w.heap.size + 1 < w3.heap.size := by omega
  have n1_f : ¬ w.heap.size + 1 = w3.heap.size := by omega
  have m1_f : ¬ w3.heap.size = w.heap.size + 1 := by omega
  have lt2_f : w.heap.size + 1 + 1 < w3.heap.size := by omega
  have n2_f : ¬ w.heap.size + 1 + 1 = w3.heap.size := by omega
  have m2_f : ¬ w3.heap.size = w.heap.size + 1 + 1 := by omega
  have lt2p_f : w.heap.size + 2 < w3.heap.size := by omega
  have n2p_f : ¬ w.heap.size + 2 = w3.heap.size := by omega
  have m2p_f : ¬ w3.heap.size = w.heap.size + 2 := by omega
  go_wp2
  apply ret_of
  · simp only [results, Try.results33]
    go_simp
    with_reducible rfl
  refine ⟨rfl, ?_⟩
  refine ⟨w3.heap.size, rfl, h1.size, by simp, by simp [go_sem, *], by simp [go_sem, *], by simp [go_sem, *], by simp [go_sem, *], by (repeat (first | with_reducible apply Below.drew | with_reducible refine Below.setCell ?_ (by first | exact Nat.le_refl _ | (simp; done) | (simp; omega) | omega) _ | with_reducible refine Below.alloc ?_ (by first | exact Nat.le_refl _ | (simp; done) | (simp; omega) | omega) _ | with_reducible exact Below.refl _ _ | with_reducible assumption))⟩

set_option maxHeartbeats 1000000 in
theorem ref_decide_D0b (t s v x0 x1 x2 x3 x4 : Int) (c : Bool) (w : World) (hm : mayS ⟨t, c, s, v⟩ = true) (ho : ordOk ⟨x0, x1, x2, x3, x4⟩ = true) (hx : (x3 == 4) = false) (hc1 : 0 ≤ x2) (hc2 : (x2 != v) = false) (hcm : comesS ⟨t, c, s, v⟩ ⟨x3, x4⟩ = false) :
    Calls Try.prog 33 #[.agg #[.int .i64 t, .bool c, .int .i64 s, .int .i64 v], .agg #[.int .i64 x0, .int .i64 x1, .int .i64 x2, .int .i64 x3, .int .i64 x4]] w fun e w' =>
      e = .returned (.agg #[.int .i64 3, .int .i64 v, .slice none 0 0]) ∧ Below w.heap.size w w' := by
  obtain ⟨q1, q2, q3, q4⟩ := mayS_bounds hm
  go_enter Try.func33, Try.ntmps33
  go_wp2_with fail
  refine (ref_may _ _ _ _ _).mono ?_
  rintro e w1 ⟨rfl, hb⟩
  have hk_new : Keeps (w.heap.size + 3) [(⟨w.heap.size, 0, none⟩, .int .i64 t), (⟨w.heap.size, 1, none⟩, .bool c), (⟨w.heap.size, 2, none⟩, .int .i64 s), (⟨w.heap.size, 3, none⟩, .int .i64 v), (⟨w.heap.size + 1, 0, none⟩, .int .i64 x0), (⟨w.heap.size + 1, 1, none⟩, .int .i64 x1), (⟨w.heap.size + 1, 2, none⟩, .int .i64 x2), (⟨w.heap.size + 1, 3, none⟩, .int .i64 x3), (⟨w.heap.size + 1, 4, none⟩, .int .i64 x4), (⟨w.heap.size + 2, 0, none⟩, .int .i64 0), (⟨w.heap.size + 2, 1, none⟩, .int .i64 0), (⟨w.heap.size + 2, 2, none⟩, .slice none 0 0)] w w1 := by
    refine Keeps.below ⟨?_, by first | (simp; done) | (simp; omega) | omega, by first | (simp [List.forall_mem_cons]; done) | (simp [List.forall_mem_cons]; omega), by simp [cellsAre_cons, cellsAre_nil, go_sem, World.cell?_alloc_past, *]⟩ hb
    (repeat (first | with_reducible apply Below.drew | with_reducible refine Below.setCell ?_ (by first | exact Nat.le_refl _ | (simp; done) | (simp; omega) | omega) _ | with_reducible refine Below.alloc ?_ (by first | exact Nat.le_refl _ | (simp; done) | (simp; omega) | omega) _ | with_reducible exact Below.refl _ _ | with_reducible assumption))
  clear hb
  try clear hk
  have hk := hk_new
  clear hk_new
  have hk' := hk
  obtain ⟨h1, h2, h3, h4⟩ := hk'
  simp only [cellsAre_cons, cellsAre_nil, and_true] at h4
  go_wp2_with fail
  refine (ref_may09 _ _ _ _ _ _).mono ?_
  rintro e w2 ⟨rfl, hb⟩
  have hk_new : Keeps (w.heap.size + 3) [(⟨w.heap.size, 0, none⟩, .int .i64 t), (⟨w.heap.size, 1, none⟩, .bool c), (⟨w.heap.size, 2, none⟩, .int .i64 s), (⟨w.heap.size, 3, none⟩, .int .i64 v), (⟨w.heap.size + 1, 0, none⟩, .int .i64 x0), (⟨w.heap.size + 1, 1, none⟩, .int .i64 x1), (⟨w.heap.size + 1, 2, none⟩, .int .i64 x2), (⟨w.heap.size + 1, 3, none⟩, .int .i64 x3), (⟨w.heap.size + 1, 4, none⟩, .int .i64 x4), (⟨w.heap.size + 2, 0, none⟩, .int .i64 0), (⟨w.heap.size + 2, 1, none⟩, .int .i64 0), (⟨w.heap.size + 2, 2, none⟩, .slice none 0 0)] w w2 := by
    refine Keeps.below ⟨?_, by first | (simp; done) | (simp; omega) | omega, by first | (simp [List.forall_mem_cons]; done) | (simp [List.forall_mem_cons]; omega), by simp [cellsAre_cons, cellsAre_nil, go_sem, World.cell?_alloc_past, *]⟩ hb
    (repeat (first | with_reducible apply Below.drew | with_reducible refine Below.setCell ?_ (by first | exact Nat.le_refl _ | (simp; done) | (simp; omega) | omega) _ | with_reducible refine Below.alloc ?_ (by first | exact Nat.le_refl _ | (simp; done) | (simp; omega) | omega) _ | with_reducible exact Below.refl _ _ | with_reducible assumption))
  clear hb
  try clear hk
  have hk := hk_new
  clear hk_new
  clear h1 h2 h3 h4
  have hk' := hk
  obtain ⟨h1, h2, h3, h4⟩ := hk'
  simp only [cellsAre_cons, cellsAre_nil, and_true] at h4
  have h2c := h2
  have lt0_b : w.heap.size < w2.heap.size := by omega
  have n0_b : ¬ w.heap.size = w2.heap.size := by omega
  have m0_b : ¬ w2.heap.size = w.heap.size := by omega
  have lt1_b : w.heap.size + 1 < w2.heap.size := by omega
  have n1_b : ¬ w.heap.size + 1 = w2.heap.size := by omega
  have m1_b : ¬ w2.heap.size = w.heap.size + 1 := by omega
  have lt2_b : w.heap.size + 1 + 1 < w2.heap.size := by omega
  have n2_b : ¬ w.heap.size + 1 + 1 = w2.heap.size := by omega
  have m2_b : ¬ w2.heap.size = w.heap.size + 1 + 1 := by omega
  have lt2p_b : w.heap.size + 2 < w2.heap.size := by omega
  have n2p_b : ¬ w.heap.size + 2 = w2.heap.size := by omega
  have m2p_b : ¬ w2.heap.size = w.heap.size + 2 := by omega
  go_wp2_with fail
  refine (ref_comes _ _ _ _ _ _ _ q1 q2).mono ?_
  rintro e w3 ⟨rfl, hb⟩
  have hk_new : Keeps (w2.heap.size + 1) [(⟨w2.heap.size, 0, none⟩, .int .i64 x3), (⟨w2.heap.size, 1, none⟩, .int .i64 x4), (⟨w.heap.size, 0, none⟩, .int .i64 t), (⟨w.heap.size, 1, none⟩, .bool c), (⟨w.heap.size, 2, none⟩, .int .i64 s), (⟨w.heap.size, 3, none⟩, .int .i64 v), (⟨w.heap.size + 1, 0, none⟩, .int .i64 x0), (⟨w.heap.size + 1, 1, none⟩, .int .i64 x1), (⟨w.heap.size + 1, 2, none⟩, .int .i64 x2), (⟨w.heap.size + 1, 3, none⟩, .int .i64 x3), (⟨w.heap.size + 1, 4, none⟩, .int .i64 x4), (⟨w.heap.size + 2, 0, none⟩, .int .i64 0), (⟨w.heap.size + 2, 1, none⟩, .int .i64 0), (⟨w.heap.size + 2, 2, none⟩, .slice none 0 0)] w w3 := by
    refine Keeps.below ⟨?_, by first | (simp; done) | (simp; omega) | omega, by first | (simp [List.forall_mem_cons]; done) | (simp [List.forall_mem_cons]; omega), by simp [cellsAre_cons, cellsAre_nil, go_sem, World.cell?_alloc_past, *]⟩ hb
    (repeat (first | with_reducible apply Below.drew | with_reducible refine Below.setCell ?_ (by first | exact Nat.le_refl _ | (simp; done) | (simp; omega) | omega) _ | with_reducible refine Below.alloc ?_ (by first | exact Nat.le_refl _ | (simp; done) | (simp; omega) | omega) _ | with_reducible exact Below.refl _ _ | with_reducible assumption))
  clear hb
  try clear hk
  have hk := hk_new
  clear hk_new
  clear h1 h2 h3 h4
  have hk' := hk
  obtain ⟨h1, h2, h3, h4⟩ := hk'
  simp only [cellsAre_cons, cellsAre_nil, and_true] at h4
  clear lt0_b lt1_b lt2_b lt2p_b
  generalize w2.heap.size = b at *
  go_wp2
  apply ret_of
  · simp only [results, Try.results33]
    go_simp
    with_reducible rfl
  refine ⟨rfl, ?_⟩
  exact ⟨rfl, by (repeat (first | with_reducible apply Below.drew | with_reducible refine Below.setCell ?_ (by first | exact Nat.le_refl _ | (simp; done) | (simp; omega) | omega) _ | with_reducible refine Below.alloc ?_ (by first | exact Nat.le_refl _ | (simp; done) | (simp; omega) | omega) _ | with_reducible exact Below.refl _ _ | with_reducible assumption))⟩

set_option maxHeartbeats 1000000 in
theorem ref_decide_E0b (t s v x0 x1 x2 x3 x4 : Int) (c : Bool) (w : World) (hm : mayS ⟨t, c, s, v⟩ = true) (ho : ordOk ⟨x0, x1, x2, x3, x4⟩ = true) (hx : (x3 == 4) = false) (hc1 : 0 ≤ x2) (hc2 : (x2 != v) = false) (hcm : comesS ⟨t, c, s, v⟩ ⟨x3, x4⟩ = true) :
    Calls Try.prog 33 #[.agg #[.int .i64 t, .bool c, .int .i64 s, .int .i64 v], .agg #[.int .i64 x0, .int .i64 x1, .int .i64 x2, .int .i64 x3, .int .i64 x4]] w fun e w' =>
      OutNew w w' (v + 1) x3 x4 e := by
  obtain ⟨q1, q2, q3, q4⟩ := mayS_bounds hm
  have q5 : v < 1099511627776 := by simp [comesS] at hcm; exact hcm.1
  go_enter Try.func33, Try.ntmps33
  go_wp2_with fail
  refine (ref_may _ _ _ _ _).mono ?_
  rintro e w1 ⟨rfl, hb⟩
  have hk_new : Keeps (w.heap.size + 3) [(⟨w.heap.size, 0, none⟩, .int .i64 t), (⟨w.heap.size, 1, none⟩, .bool c), (⟨w.heap.size, 2, none⟩, .int .i64 s), (⟨w.heap.size, 3, none⟩, .int .i64 v), (⟨w.heap.size + 1, 0, none⟩, .int .i64 x0), (⟨w.heap.size + 1, 1, none⟩, .int .i64 x1), (⟨w.heap.size + 1, 2, none⟩, .int .i64 x2), (⟨w.heap.size + 1, 3, none⟩, .int .i64 x3), (⟨w.heap.size + 1, 4, none⟩, .int .i64 x4), (⟨w.heap.size + 2, 0, none⟩, .int .i64 0), (⟨w.heap.size + 2, 1, none⟩, .int .i64 0), (⟨w.heap.size + 2, 2, none⟩, .slice none 0 0)] w w1 := by
    refine Keeps.below ⟨?_, by first | (simp; done) | (simp; omega) | omega, by first | (simp [List.forall_mem_cons]; done) | (simp [List.forall_mem_cons]; omega), by simp [cellsAre_cons, cellsAre_nil, go_sem, World.cell?_alloc_past, *]⟩ hb
    (repeat (first | with_reducible apply Below.drew | with_reducible refine Below.setCell ?_ (by first | exact Nat.le_refl _ | (simp; done) | (simp; omega) | omega) _ | with_reducible refine Below.alloc ?_ (by first | exact Nat.le_refl _ | (simp; done) | (simp; omega) | omega) _ | with_reducible exact Below.refl _ _ | with_reducible assumption))
  clear hb
  try clear hk
  have hk := hk_new
  clear hk_new
  have hk' := hk
  obtain ⟨h1, h2, h3, h4⟩ := hk'
  simp only [cellsAre_cons, cellsAre_nil, and_true] at h4
  go_wp2_with fail
  refine (ref_may09 _ _ _ _ _ _).mono ?_
  rintro e w2 ⟨rfl, hb⟩
  have hk_new : Keeps (w.heap.size + 3) [(⟨w.heap.size, 0, none⟩, .int .i64 t), (⟨w.heap.size, 1, none⟩, .bool c), (⟨w.heap.size, 2, none⟩, .int .i64 s), (⟨w.heap.size, 3, none⟩, .int .i64 v), (⟨w.heap.size + 1, 0, none⟩, .int .i64 x0), (⟨w.heap.size + 1, 1, none⟩, .int .i64 x1), (⟨w.heap.size + 1, 2, none⟩, .int .i64 x2), (⟨w.heap.size + 1, 3, none⟩, .int .i64 x3), (⟨w.heap.size + 1, 4, none⟩, .int .i64 x4), (⟨w.heap.size + 2, 0, none⟩, .int .i64 0), (⟨w.heap.size + 2, 1, none⟩, .int .i64 0), (⟨w.heap.size + 2, 2, none⟩, .slice none 0 0)] w w2 := by
    refine Keeps.below ⟨?_, by first | (simp; done) | (simp; omega) | omega, by first | (simp [List.forall_mem_cons]; done) | (simp [List.forall_mem_cons]; omega), by simp [cellsAre_cons, cellsAre_nil, go_sem, World.cell?_alloc_past, *]⟩ hb
    (repeat (first | with_reducible apply Below.drew | with_reducible refine Below.setCell ?_ (by first | exact Nat.le_refl _ | (simp; done) | (simp; omega) | omega) _ | with_reducible refine Below.alloc ?_ (by first | exact Nat.le_refl _ | (simp; done) | (simp; omega) | omega) _ | with_reducible exact Below.refl _ _ | with_reducible assumption))
  clear hb
  try clear hk
  have hk := hk_new
  clear hk_new
  clear h1 h2 h3 h4
  have hk' := hk
  obtain ⟨h1, h2, h3, h4⟩ := hk'
  simp only [cellsAre_cons, cellsAre_nil, and_true] at h4
  have h2c := h2
  have lt0_b : w.heap.size < w2.heap.size := by omega
  have n0_b : ¬ w.heap.size = w2.heap.size := by omega
  have m0_b : ¬ w2.heap.size = w.heap.size := by omega
  have lt1_b : w.heap.size + 1 < w2.heap.size := by omega
  have n1_b : ¬ w.heap.size + 1 = w2.heap.size := by omega
  have m1_b : ¬ w2.heap.size = w.heap.size + 1 := by omega
  have lt2_b : w.heap.size + 1 + 1 < w2.heap.size := by omega
  have n2_b : ¬ w.heap.size + 1 + 1 = w2.heap.size := by omega
  have m2_b : ¬ w2.heap.size = w.heap.size + 1 + 1 := by omega
  have lt2p_b : w.heap.size + 2 < w2.heap.size := by omega
  have n2p_b : ¬ w.heap.size + 2 = w2.heap.size := by omega
  have m2p_b : ¬ w2.heap.size = w.heap.size + 2 := by omega
  go_wp2_with fail
  refine (ref_comes _ _ _ _ _ _ _ q1 q2).mono ?_
  rintro e w3 ⟨rfl, hb⟩
  have hk_new : Keeps (w2.heap.size + 1) [(⟨w2.heap.size, 0, none⟩, .int .i64 x3), (⟨w2.heap.size, 1, none⟩, .int .i64 x4), (⟨w.heap.size, 0, none⟩, .int .i64 t), (⟨w.heap.size, 1, none⟩, .bool c), (⟨w.heap.size, 2, none⟩, .int .i64 s), (⟨w.heap.size, 3, none⟩, .int .i64 v), (⟨w.heap.size + 1, 0, none⟩, .int .i64 x0), (⟨w.heap.size + 1, 1, none⟩, .int .i64 x1), (⟨w.heap.size + 1, 2, none⟩, .int .i64 x2), (⟨w.heap.size + 1, 3, none⟩, .int .i64 x3), (⟨w.heap.size + 1, 4, none⟩, .int .i64 x4), (⟨w.heap.size + 2, 0, none⟩, .int .i64 0), (⟨w.heap.size + 2, 1, none⟩, .int .i64 0), (⟨w.heap.size + 2, 2, none⟩, .slice none 0 0)] w w3 := by
    refine Keeps.below ⟨?_, by first | (simp; done) | (simp; omega) | omega, by first | (simp [List.forall_mem_cons]; done) | (simp [List.forall_mem_cons]; omega), by simp [cellsAre_cons, cellsAre_nil, go_sem, World.cell?_alloc_past, *]⟩ hb
    (repeat (first | with_reducible apply Below.drew | with_reducible refine Below.setCell ?_ (by first | exact Nat.le_refl _ | (simp; done) | (simp; omega) | omega) _ | with_reducible refine Below.alloc ?_ (by first | exact Nat.le_refl _ | (simp; done) | (simp; omega) | omega) _ | with_reducible exact Below.refl _ _ | with_reducible assumption))
  clear hb
  try clear hk
  have hk := hk_new
  clear hk_new
  clear h1 h2 h3 h4
  have hk' := hk
  obtain ⟨h1, h2, h3, h4⟩ := hk'
  simp only [cellsAre_cons, cellsAre_nil, and_true] at h4
  clear lt0_b lt1_b lt2_b lt2p_b
  generalize w2.heap.size = b at *
  have ltb : b < w3.heap.size := by omega
  have nb' : ¬ b = w3.heap.size := by omega
  have mb' : ¬ w3.heap.size = b := by omega
  have lt0_f : w.heap.size < w3.heap.size := by omega
  have n0_f : ¬ w.heap.size = w3.heap.size := by omega
  have m0_f : ¬ w3.heap.size = w.heap.size := by omega
  have lt1_f : w.heap.size + 1 < w3.heap.size := by omega
  have n1_f : ¬ w.heap.size + 1 = w3.heap.size := by omega
  have m1_f : ¬ w3.heap.size = w.heap.size + 1 := by omega
  have lt2_f : w.heap.size + 1 + 1 < w3.heap.size := by omega
  have n2_f : ¬ w.heap.size + 1 + 1 = w3.heap.size := by omega
  have m2_f : ¬ w3.heap.size = w.heap.size + 1 + 1 := by omega
  have lt2p_f : w.heap.size + 2 < w3.heap.size := by omega
  have n2p_f : ¬ w.heap.size + 2 = w3.heap.size := by omega
  have m2p_f : ¬ w3.heap.size = w.heap.size + 2 := by omega
  go_wp2
  apply ret_of
  · simp only [results, Try.results33]
    go_simp
    with_reducible rfl
  refine ⟨rfl, ?_⟩
  refine ⟨w3.heap.size, rfl, h1.size, by simp, by simp [go_sem, *], by simp [go_sem, *], by simp [go_sem, *], by simp [go_sem, *], by (repeat (first | with_reducible apply Below.drew | with_reducible refine Below.setCell ?_ (by first | exact Nat.le_refl _ | (simp; done) | (simp; omega) | omega) _ | with_reducible refine Below.alloc ?_ (by first | exact Nat.le_refl _ | (simp; done) | (simp; omega) | omega) _ | with_reducible exact Below.refl _ _ | with_reducible assumption))⟩

set_option maxHeartbeats 1000000 in
theorem ref_decide_D4a (t s v x0 x1 x2 x3 x4 : Int) (c : Bool) (w : World) (hm : mayS ⟨t, c, s, v⟩ = true) (ho : ordOk ⟨x0, x1, x2, x3, x4⟩ = true) (hx : (x3 == 4) = true) (hc1 : x2 < 0) (hcm : comesS ⟨t, c, s, v⟩ ⟨x3, 0⟩ = false) :
    Calls Try.prog 33 #[.agg #[.int .i64 t, .bool c, .int .i64 s, .int .i64 v], .agg #[.int .i64 x0, .int .i64 x1, .int .i64 x2, .int .i64 x3, .int .i64 x4]] w fun e w' =>
      e = .returned (.agg #[.int .i64 3, .int .i64 v, .slice none 0 0]) ∧ Below w.heap.size w w' := by
  obtain ⟨q1, q2, q3, q4⟩ := mayS_bounds hm
  go_enter Try.func33, Try.ntmps33
  go_wp2_with fail
  refine (ref_may _ _ _ _ _).mono ?_
  rintro e w1 ⟨rfl, hb⟩
  have hk_new : Keeps (w.heap.size + 3) [(⟨w.heap.size, 0, none⟩, .int .i64 t), (⟨w.heap.size, 1, none⟩, .bool c), (⟨w.heap.size, 2, none⟩, .int .i64 s), (⟨w.heap.size, 3, none⟩, .int .i64 v), (⟨w.heap.size + 1, 0, none⟩, .int .i64 x0), (⟨w.heap.size + 1, 1, none⟩, .int .i64 x1), (⟨w.heap.size + 1, 2, none⟩, .int .i64 x2), (⟨w.heap.size + 1, 3, none⟩, .int .i64 x3), (⟨w.heap.size + 1, 4, none⟩, .int .i64 x4), (⟨w.heap.size + 2, 0, none⟩, .int .i64 0), (⟨w.heap.size + 2, 1, none⟩, .int .i64 0), (⟨w.heap.size + 2, 2, none⟩, .slice none 0 0)] w w1 := by
    refine Keeps.below ⟨?_, by first | (simp; done) | (simp; omega) | omega, by first | (simp [List.forall_mem_cons]; done) | (simp [List.forall_mem_cons]; omega), by simp [cellsAre_cons, cellsAre_nil, go_sem, World.cell?_alloc_past, *]⟩ hb
    (repeat (first | with_reducible apply Below.drew | with_reducible refine Below.setCell ?_ (by first | exact Nat.le_refl _ | (simp; done) | (simp; omega) | omega) _ | with_reducible refine Below.alloc ?_ (by first | exact Nat.le_refl _ | (simp; done) | (simp; omega) | omega) _ | with_reducible exact Below.refl _ _ | with_reducible assumption))
  clear hb
  try clear hk
  have hk := hk_new
  clear hk_new
  have hk' := hk
  obtain ⟨h1, h2, h3, h4⟩ := hk'
  simp only [cellsAre_cons, cellsAre_nil, and_true] at h4
  go_wp2_with fail
  refine (ref_may09 _ _ _ _ _ _).mono ?_
  rintro e w2 ⟨rfl, hb⟩
  have hk_new : Keeps (w.heap.size + 3) [(⟨w.heap.size, 0, none⟩, .int .i64 t), (⟨w.heap.size, 1, none⟩, .bool c), (⟨w.heap.size, 2, none⟩, .int .i64 s), (⟨w.heap.size, 3, none⟩, .int .i64 v), (⟨w.heap.size + 1, 0, none⟩, .int .i64 x0), (⟨w.heap.size + 1, 1, none⟩, .int .i64 x1), (⟨w.heap.size + 1, 2, none⟩, .int .i64 x2), (⟨w.heap.size + 1, 3, none⟩, .int .i64 x3), (⟨w.heap.size + 1, 4, none⟩, .int .i64 x4), (⟨w.heap.size + 2, 0, none⟩, .int .i64 0), (⟨w.heap.size + 2, 1, none⟩, .int .i64 0), (⟨w.heap.size + 2, 2, none⟩, .slice none 0 0)] w w2 := by
    refine Keeps.below ⟨?_, by first | (simp; done) | (simp; omega) | omega, by first | (simp [List.forall_mem_cons]; done) | (simp [List.forall_mem_cons]; omega), by simp [cellsAre_cons, cellsAre_nil, go_sem, World.cell?_alloc_past, *]⟩ hb
    (repeat (first | with_reducible apply Below.drew | with_reducible refine Below.setCell ?_ (by first | exact Nat.le_refl _ | (simp; done) | (simp; omega) | omega) _ | with_reducible refine Below.alloc ?_ (by first | exact Nat.le_refl _ | (simp; done) | (simp; omega) | omega) _ | with_reducible exact Below.refl _ _ | with_reducible assumption))
  clear hb
  try clear hk
  have hk := hk_new
  clear hk_new
  clear h1 h2 h3 h4
  have hk' := hk
  obtain ⟨h1, h2, h3, h4⟩ := hk'
  simp only [cellsAre_cons, cellsAre_nil, and_true] at h4
  have h2c := h2
  have lt0_b : w.heap.size < w2.heap.size := by omega
  have n0_b : ¬ w.heap.size = w2.heap.size := by omega
  have m0_b : ¬ w2.heap.size = w.heap.size := by omega
  have lt1_b : w.heap.size + 1 < w2.heap.size := by omega
  have n1_b : ¬ w.heap.size + 1 = w2.heap.size := by omega
  have m1_b : ¬ w2.heap.size = w.heap.size + 1 := by omega
  have lt2_b : w.heap.size + 1 + 1 < w2.heap.size := by omega
  have n2_b : ¬ w.heap.size + 1 + 1 = w2.heap.size := by omega
  have m2_b : ¬ w2.heap.size = w.heap.size + 1 + 1 := by omega
  have lt2p_b : w.heap.size + 2 < w2.heap.size := by omega
  have n2p_b : ¬ w.heap.size + 2 = w2.heap.size := by omega
  have m2p_b : ¬ w2.heap.size = w.heap.size + 2 := by omega
  go_wp2_with fail
  refine (ref_comes _ _ _ _ _ _ _ q1 q2).mono ?_
  rintro e w3 ⟨rfl, hb⟩
  have hk_new : Keeps (w2.heap.size + 1) [(⟨w2.heap.size, 0, none⟩, .int .i64 x3), (⟨w2.heap.size, 1, none⟩, .int .i64 0), (⟨w.heap.size, 0, none⟩, .int .i64 t), (⟨w.heap.size, 1, none⟩, .bool c), (⟨w.heap.size, 2, none⟩, .int .i64 s), (⟨w.heap.size, 3, none⟩, .int .i64 v), (⟨w.heap.size + 1, 0, none⟩, .int .i64 x0), (⟨w.heap.size + 1, 1, none⟩, .int .i64 x1), (⟨w.heap.size + 1, 2, none⟩, .int .i64 x2), (⟨w.heap.size + 1, 3, none⟩, .int .i64 x3), (⟨w.heap.size + 1, 4, none⟩, .int .i64 x4), (⟨w.heap.size + 2, 0, none⟩, .int .i64 0), (⟨w.heap.size + 2, 1, none⟩, .int .i64 0), (⟨w.heap.size + 2, 2, none⟩, .slice none 0 0)] w w3 := by
    refine Keeps.below ⟨?_, by first | (simp; done) | (simp; omega) | omega, by first | (simp [List.forall_mem_cons]; done) | (simp [List.forall_mem_cons]; omega), by simp [cellsAre_cons, cellsAre_nil, go_sem, World.cell?_alloc_past, *]⟩ hb
    (repeat (first | with_reducible apply Below.drew | with_reducible refine Below.setCell ?_ (by first | exact Nat.le_refl _ | (simp; done) | (simp; omega) | omega) _ | with_reducible refine Below.alloc ?_ (by first | exact Nat.le_refl _ | (simp; done) | (simp; omega) | omega) _ | with_reducible exact Below.refl _ _ | with_reducible assumption))
  clear hb
  try clear hk
  have hk := hk_new
  clear hk_new
  clear h1 h2 h3 h4
  have hk' := hk
  obtain ⟨h1, h2, h3, h4⟩ := hk'
  simp only [cellsAre_cons, cellsAre_nil, and_true] at h4
  clear lt0_b lt1_b lt2_b lt2p_b
  generalize w2.heap.size = b at *
  go_wp2
  apply ret_of
  · simp only [results, Try.results33]
    go_simp
    with_reducible rfl
  refine ⟨rfl, ?_⟩
  exact ⟨rfl, by (repeat (first | with_reducible apply Below.drew | with_reducible refine Below.setCell ?_ (by first | exact Nat.le_refl _ | (simp; done) | (simp; omega) | omega) _ | with_reducible refine Below.alloc ?_ (by first | exact Nat.le_refl _ | (simp; done) | (simp; omega) | omega) _ | with_reducible exact Below.refl _ _ | with_reducible assumption))⟩

set_option maxHeartbeats 1000000 in
theorem ref_decide_E4a (t s v x0 x1 x2 x3 x4 : Int) (c : Bool) (w : World) (hm : mayS ⟨t, c, s, v⟩ = true) (ho : ordOk ⟨x0, x1, x2, x3, x4⟩ = true) (hx : (x3 == 4) = true) (hc1 : x2 < 0) (hcm : comesS ⟨t, c, s, v⟩ ⟨x3, 0⟩ = true) :
    Calls Try.prog 33 #[.agg #[.int .i64 t, .bool c, .int .i64 s, .int .i64 v], .agg #[.int .i64 x0, .int .i64 x1, .int .i64 x2, .int .i64 x3, .int .i64 x4]] w fun e w' =>
      OutNew w w' (v + 1) x3 0 e := by
  obtain ⟨q1, q2, q3, q4⟩ := mayS_bounds hm
  have q5 : v < 1099511627776 := by simp [comesS] at hcm; exact hcm.1
  go_enter Try.func33, Try.ntmps33
  go_wp2_with fail
  refine (ref_may _ _ _ _ _).mono ?_
  rintro e w1 ⟨rfl, hb⟩
  have hk_new : Keeps (w.heap.size + 3) [(⟨w.heap.size, 0, none⟩, .int .i64 t), (⟨w.heap.size, 1, none⟩, .bool c), (⟨w.heap.size, 2, none⟩, .int .i64 s), (⟨w.heap.size, 3, none⟩, .int .i64 v), (⟨w.heap.size + 1, 0, none⟩, .int .i64 x0), (⟨w.heap.size + 1, 1, none⟩, .int .i64 x1), (⟨w.heap.size + 1, 2, none⟩, .int .i64 x2), (⟨w.heap.size + 1, 3, none⟩, .int .i64 x3), (⟨w.heap.size + 1, 4, none⟩, .int .i64 x4), (⟨w.heap.size + 2, 0, none⟩, .int .i64 0), (⟨w.heap.size + 2, 1, none⟩, .int .i64 0), (⟨w.heap.size + 2, 2, none⟩, .slice none 0 0)] w w1 := by
    refine Keeps.below ⟨?_, by first | (simp; done) | (simp; omega) | omega, by first | (simp [List.forall_mem_cons]; done) | (simp [List.forall_mem_cons]; omega), by simp [cellsAre_cons, cellsAre_nil, go_sem, World.cell?_alloc_past, *]⟩ hb
    (repeat (first | with_reducible apply Below.drew | with_reducible refine Below.setCell ?_ (by first | exact Nat.le_refl _ | (simp; done) | (simp; omega) | omega) _ | with_reducible refine Below.alloc ?_ (by first | exact Nat.le_refl _ | (simp; done) | (simp; omega) | omega) _ | with_reducible exact Below.refl _ _ | with_reducible assumption))
  clear hb
  try clear hk
  have hk := hk_new
  clear hk_new
  have hk' := hk
  obtain ⟨h1, h2, h3, h4⟩ := hk'
  simp only [cellsAre_cons, cellsAre_nil, and_true] at h4
  go_wp2_with fail
  refine (ref_may09 _ _ _ _ _ _).mono ?_
  rintro e w2 ⟨rfl, hb⟩
  have hk_new : Keeps (w.heap.size + 3) [(⟨w.heap.size, 0, none⟩, .int .i64 t), (⟨w.heap.size, 1, none⟩, .bool c), (⟨w.heap.size, 2, none⟩, .int .i64 s), (⟨w.heap.size, 3, none⟩, .int .i64 v), (⟨w.heap.size + 1, 0, none⟩, .int .i64 x0), (⟨w.heap.size + 1, 1, none⟩, .int .i64 x1), (⟨w.heap.size + 1, 2, none⟩, .int .i64 x2), (⟨w.heap.size + 1, 3, none⟩, .int .i64 x3), (⟨w.heap.size + 1, 4, none⟩, .int .i64 x4), (⟨w.heap.size + 2, 0, none⟩, .int .i64 0), (⟨w.heap.size + 2, 1, none⟩, .int .i64 0), (⟨w.heap.size + 2, 2, none⟩, .slice none 0 0)] w w2 := by
    refine Keeps.below ⟨?_, by first | (simp; done) | (simp; omega) | omega, by first | (simp [List.forall_mem_cons]; done) | (simp [List.forall_mem_cons]; omega), by simp [cellsAre_cons, cellsAre_nil, go_sem, World.cell?_alloc_past, *]⟩ hb
    (repeat (first | with_reducible apply Below.drew | with_reducible refine Below.setCell ?_ (by first | exact Nat.le_refl _ | (simp; done) | (simp; omega) | omega) _ | with_reducible refine Below.alloc ?_ (by first | exact Nat.le_refl _ | (simp; done) | (simp; omega) | omega) _ | with_reducible exact Below.refl _ _ | with_reducible assumption))
  clear hb
  try clear hk
  have hk := hk_new
  clear hk_new
  clear h1 h2 h3 h4
  have hk' := hk
  obtain ⟨h1, h2, h3, h4⟩ := hk'
  simp only [cellsAre_cons, cellsAre_nil, and_true] at h4
  have h2c := h2
  have lt0_b : w.heap.size < w2.heap.size := by omega
  have n0_b : ¬ w.heap.size = w2.heap.size := by omega
  have m0_b : ¬ w2.heap.size = w.heap.size := by omega
  have lt1_b : w.heap.size + 1 < w2.heap.size := by omega
  have n1_b : ¬ w.heap.size + 1 = w2.heap.size := by omega
  have m1_b : ¬ w2.heap.size = w.heap.size + 1 := by omega
  have lt2_b : w.heap.size + 1 + 1 < w2.heap.size := by omega
  have n2_b : ¬ w.heap.size + 1 + 1 = w2.heap.size := by omega
  have m2_b : ¬ w2.heap.size = w.heap.size + 1 + 1 := by omega
  have lt2p_b : w.heap.size + 2 < w2.heap.size := by omega
  have n2p_b : ¬ w.heap.size + 2 = w2.heap.size := by omega
  have m2p_b : ¬ w2.heap.size = w.heap.size + 2 := by omega
  go_wp2_with fail
  refine (ref_comes _ _ _ _ _ _ _ q1 q2).mono ?_
  rintro e w3 ⟨rfl, hb⟩
  have hk_new : Keeps (w2.heap.size + 1) [(⟨w2.heap.size, 0, none⟩, .int .i64 x3), (⟨w2.heap.size, 1, none⟩, .int .i64 0), (⟨w.heap.size, 0, none⟩, .int .i64 t), (⟨w.heap.size, 1, none⟩, .bool c), (⟨w.heap.size, 2, none⟩, .int .i64 s), (⟨w.heap.size, 3, none⟩, .int .i64 v), (⟨w.heap.size + 1, 0, none⟩, .int .i64 x0), (⟨w.heap.size + 1, 1, none⟩, .int .i64 x1), (⟨w.heap.size + 1, 2, none⟩, .int .i64 x2), (⟨w.heap.size + 1, 3, none⟩, .int .i64 x3), (⟨w.heap.size + 1, 4, none⟩, .int .i64 x4), (⟨w.heap.size + 2, 0, none⟩, .int .i64 0), (⟨w.heap.size + 2, 1, none⟩, .int .i64 0), (⟨w.heap.size + 2, 2, none⟩, .slice none 0 0)] w w3 := by
    refine Keeps.below ⟨?_, by first | (simp; done) | (simp; omega) | omega, by first | (simp [List.forall_mem_cons]; done) | (simp [List.forall_mem_cons]; omega), by simp [cellsAre_cons, cellsAre_nil, go_sem, World.cell?_alloc_past, *]⟩ hb
    (repeat (first | with_reducible apply Below.drew | with_reducible refine Below.setCell ?_ (by first | exact Nat.le_refl _ | (simp; done) | (simp; omega) | omega) _ | with_reducible refine Below.alloc ?_ (by first | exact Nat.le_refl _ | (simp; done) | (simp; omega) | omega) _ | with_reducible exact Below.refl _ _ | with_reducible assumption))
  clear hb
  try clear hk
  have hk := hk_new
  clear hk_new
  clear h1 h2 h3 h4
  have hk' := hk
  obtain ⟨h1, h2, h3, h4⟩ := hk'
  simp only [cellsAre_cons, cellsAre_nil, and_true] at h4
  clear lt0_b lt1_b lt2_b lt2p_b
  generalize w2.heap.size = b at *
  have ltb : b < w3.heap.size := by omega
  have nb' : ¬ b = w3.heap.size := by omega
  have mb' : ¬ w3.heap.size = b := by omega
  have lt0_f : w.heap.size < w3.heap.size := by omega
  have n0_f : ¬ w.heap.size = w3.heap.size := by omega
  have m0_f : ¬ w3.heap.size = w.heap.size := by omega
  have lt1_f : w.heap.size + 1 < w3.heap.size := by omega
  have n1_f : ¬ w.heap.size + 1 = w3.heap.size := by omega
  have m1_f : ¬ w3.heap.size = w.heap.size + 1 := by omega
  have lt2_f : w.heap.size + 1 + 1 < w3.heap.size := by omega
  have n2_f : ¬ w.heap.size + 1 + 1 = w3.heap.size := by omega
  have m2_f : ¬ w3.heap.size = w.heap.size + 1 + 1 := by omega
  have lt2p_f : w.heap.size + 2 < w3.heap.size := by omega
  have n2p_f : ¬ w.heap.size + 2 = w3.heap.size := by omega
  have m2p_f : ¬ w3.heap.size = w.heap.size + 2 := by omega
  go_wp2
  apply ret_of
  · simp only [results, Try.results33]
    go_simp
    with_reducible rfl
  refine ⟨rfl, ?_⟩
  refine ⟨w3.heap.size, rfl, h1.size, by simp, by simp [go_sem, *], by simp [go_sem, *], by simp [go_sem, *], by simp [go_sem, *], by (repeat (first | with_reducible apply Below.drew | with_reducible refine Below.setCell ?_ (by first | exact Nat.le_refl _ | (simp; done) | (simp; omega) | omega) _ | with_reducible refine Below.alloc ?_ (by first | exact Nat.le_refl _ | (simp; done) | (simp; omega) | omega) _ | with_reducible exact Below.refl _ _ | with_reducible assumption))⟩

set_option maxHeartbeats 1000000 in
theorem ref_decide_D4b (t s v x0 x1 x2 x3 x4 : Int) (c : Bool) (w : World) (hm : mayS ⟨t, c, s, v⟩ = true) (ho : ordOk ⟨x0, x1, x2, x3, x4⟩ = true) (hx : (x3 == 4) = true) (hc1 : 0 ≤ x2) (hc2 : (x2 != v) = false) (hcm : comesS ⟨t, c, s, v⟩ ⟨x3, 0⟩ = false) :
    Calls Try.prog 33 #[.agg #[.int .i64 t, .bool c, .int .i64 s, .int .i64 v], .agg #[.int .i64 x0, .int .i64 x1, .int .i64 x2, .int .i64 x3, .int .i64 x4]] w fun e w' =>
      e = .returned (.agg #[.int .i64 3, .int .i64 v, .slice none 0 0]) ∧ Below w.heap.size w w' := by
  obtain ⟨q1, q2, q3, q4⟩ := mayS_bounds hm
  go_enter Try.func33, Try.ntmps33
  go_wp2_with fail
  refine (ref_may _ _ _ _ _).mono ?_
  rintro e w1 ⟨rfl, hb⟩
  have hk_new : Keeps (w.heap.size + 3) [(⟨w.heap.size, 0, none⟩, .int .i64 t), (⟨w.heap.size, 1, none⟩, .bool c), (⟨w.heap.size, 2, none⟩, .int .i64 s), (⟨w.heap.size, 3, none⟩, .int .i64 v), (⟨w.heap.size + 1, 0, none⟩, .int .i64 x0), (⟨w.heap.size + 1, 1, none⟩, .int .i64 x1), (⟨w.heap.size + 1, 2, none⟩, .int .i64 x2), (⟨w.heap.size + 1, 3, none⟩, .int .i64 x3), (⟨w.heap.size + 1, 4, none⟩, .int .i64 x4), (⟨w.heap.size + 2, 0, none⟩, .int .i64 0), (⟨w.heap.size + 2, 1, none⟩, .int .i64 0), (⟨w.heap.size + 2, 2, none⟩, .slice none 0 0)] w w1 := by
    refine Keeps.below ⟨?_, by first | (simp; done) | (simp; omega) | omega, by first | (simp [List.forall_mem_cons]; done) | (simp [List.forall_mem_cons]; omega), by simp [cellsAre_cons, cellsAre_nil, go_sem, World.cell?_alloc_past, *]⟩ hb
    (repeat (first | with_reducible apply Below.drew | with_reducible refine Below.setCell ?_ (by first | exact Nat.le_refl _ | (simp; done) | (simp; omega) | omega) _ | with_reducible refine Below.alloc ?_ (by first | exact Nat.le_refl _ | (simp; done) | (simp; omega) | omega) _ | with_reducible exact Below.refl _ _ | with_reducible assumption))
  clear hb
  try clear hk
  have hk := hk_new
  clear hk_new
  have hk' := hk
  obtain ⟨h1, h2, h3, h4⟩ := hk'
  simp only [cellsAre_cons, cellsAre_nil, and_true] at h4
  go_wp2_with fail
  refine (ref_may09 _ _ _ _ _ _).mono ?_
  rintro e w2 ⟨rfl, hb⟩
  have hk_new : Keeps (w.heap.size + 3) [(⟨w.heap.size, 0, none⟩, .int .i64 t), (⟨w.heap.size, 1, none⟩, .bool c), (⟨w.heap.size, 2, none⟩, .int .i64 s), (⟨w.heap.size, 3, none⟩, .int .i64 v), (⟨w.heap.size + 1, 0, none⟩, .int .i64 x0), (⟨w.heap.size + 1, 1, none⟩, .int .i64 x1), (⟨w.heap.size + 1, 2, none⟩, .int .i64 x2), (⟨w.heap.size + 1, 3, none⟩, .int .i64 x3), (⟨w.heap.size + 1, 4, none⟩, .int .i64 x4), (⟨w.heap.size + 2, 0, none⟩, .int .i64 0), (⟨w.heap.size + 2, 1, none⟩, .int .i64 0), (⟨w.heap.size + 2, 2, none⟩, .slice none 0 0)] w w2 := by
    refine Keeps.below ⟨?_, by first | (simp; done) | (simp; omega) | omega, by first | (simp [List.forall_mem_cons]; done) | (simp [List.forall_mem_cons]; omega), by simp [cellsAre_cons, cellsAre_nil, go_sem, World.cell?_alloc_past, *]⟩ hb
    (repeat (first | with_reducible apply Below.drew | with_reducible refine Below.setCell ?_ (by first | exact Nat.le_refl _ | (simp; done) | (simp; omega) | omega) _ | with_reducible refine Below.alloc ?_ (by first | exact Nat.le_refl _ | (simp; done) | (simp; omega) | omega) _ | with_reducible exact Below.refl _ _ | with_reducible assumption))
  clear hb
  try clear hk
  have hk := hk_new
  clear hk_new
  clear h1 h2 h3 h4
  have hk' := hk
  obtain ⟨h1, h2, h3, h4⟩ := hk'
  simp only [cellsAre_cons, cellsAre_nil, and_true] at h4
  have h2c := h2
  have lt0_b : w.heap.size < w2.heap.size := by omega
  have n0_b : ¬ w.heap.size = w2.heap.size := by omega
  have m0_b : ¬ w2.heap.size = w.heap.size := by omega
  have lt1_b : w.heap.size + 1 < w2.heap.size := by omega
  have n1_b : ¬ w.heap.size + 1 = w2.heap.size := by omega
  have m1_b : ¬ w2.heap.size = w.heap.size + 1 := by omega
  have lt2_b : w.heap.size + 1 + 1 < w2.heap.size := by omega
  have n2_b : ¬ w.heap.size + 1 + 1 = w2.heap.size := by omega
  have m2_b : ¬ w2.heap.size = w.heap.size + 1 + 1 := by omega
  have lt2p_b : w.heap.size + 2 < w2.heap.size := by omega
  have n2p_b : ¬ w.heap.size + 2 = w2.heap.size := by omega
  have m2p_b : ¬ w2.heap.size = w.heap.size + 2 := by omega
  go_wp2_with fail
  refine (ref_comes _ _ _ _ _ _ _ q1 q2).mono ?_
  rintro e w3 ⟨rfl, hb⟩
  have hk_new : Keeps (w2.heap.size + 1) [(⟨w2.heap.size, 0, none⟩, .int .i64 x3), (⟨w2.heap.size, 1, none⟩, .int .i64 0), (⟨w.heap.size, 0, none⟩, .int .i64 t), (⟨w.heap.size, 1, none⟩, .bool c), (⟨w.heap.size, 2, none⟩, .int .i64 s), (⟨w.heap.size, 3, none⟩, .int .i64 v), (⟨w.heap.size + 1, 0, none⟩, .int .i64 x0), (⟨w.heap.size + 1, 1, none⟩, .int .i64 x1), (⟨w.heap.size + 1, 2, none⟩, .int .i64 x2), (⟨w.heap.size + 1, 3, none⟩, .int .i64 x3), (⟨w.heap.size + 1, 4, none⟩, .int .i64 x4), (⟨w.heap.size + 2, 0, none⟩, .int .i64 0), (⟨w.heap.size + 2, 1, none⟩, .int .i64 0), (⟨w.heap.size + 2, 2, none⟩, .slice none 0 0)] w w3 := by
    refine Keeps.below ⟨?_, by first | (simp; done) | (simp; omega) | omega, by first | (simp [List.forall_mem_cons]; done) | (simp [List.forall_mem_cons]; omega), by simp [cellsAre_cons, cellsAre_nil, go_sem, World.cell?_alloc_past, *]⟩ hb
    (repeat (first | with_reducible apply Below.drew | with_reducible refine Below.setCell ?_ (by first | exact Nat.le_refl _ | (simp; done) | (simp; omega) | omega) _ | with_reducible refine Below.alloc ?_ (by first | exact Nat.le_refl _ | (simp; done) | (simp; omega) | omega) _ | with_reducible exact Below.refl _ _ | with_reducible assumption))
  clear hb
  try clear hk
  have hk := hk_new
  clear hk_new
  clear h1 h2 h3 h4
  have hk' := hk
  obtain ⟨h1, h2, h3, h4⟩ := hk'
  simp only [cellsAre_cons, cellsAre_nil, and_true] at h4
  clear lt0_b lt1_b lt2_b lt2p_b
  generalize w2.heap.size = b at *
  go_wp2
  apply ret_of
  · simp only [results, Try.results33]
    go_simp
    with_reducible rfl
  refine ⟨rfl, ?_⟩
  exact ⟨rfl, by (repeat (first | with_reducible apply Below.drew | with_reducible refine Below.setCell ?_ (by first | exact Nat.le_refl _ | (simp; done) | (simp; omega) | omega) _ | with_reducible refine Below.alloc ?_ (by first | exact Nat.le_refl _ | (simp; done) | (simp; omega) | omega) _ | with_reducible exact Below.refl _ _ | with_reducible assumption))⟩

set_option maxHeartbeats 1000000 in
theorem ref_decide_E4b (t s v x0 x1 x2 x3 x4 : Int) (c : Bool) (w : World) (hm : mayS ⟨t, c, s, v⟩ = true) (ho : ordOk ⟨x0, x1, x2, x3, x4⟩ = true) (hx : (x3 == 4) = true) (hc1 : 0 ≤ x2) (hc2 : (x2 != v) = false) (hcm : comesS ⟨t, c, s, v⟩ ⟨x3, 0⟩ = true) :
    Calls Try.prog 33 #[.agg #[.int .i64 t, .bool c, .int .i64 s, .int .i64 v], .agg #[.int .i64 x0, .int .i64 x1, .int .i64 x2, .int .i64 x3, .int .i64 x4]] w fun e w' =>
      OutNew w w' (v + 1) x3 0 e := by
  obtain ⟨q1, q2, q3, q4⟩ := mayS_bounds hm
  have q5 : v < 1099511627776 := by simp [comesS] at hcm; exact hcm.1
  go_enter Try.func33, Try.ntmps33
  go_wp2_with fail
  refine (ref_may _ _ _ _ _).mono ?_
  rintro e w1 ⟨rfl, hb⟩
  have hk_new : Keeps (w.heap.size + 3) [(⟨w.heap.size, 0, none⟩, .int .i64 t), (⟨w.heap.size, 1, none⟩, .bool c), (⟨w.heap.size, 2, none⟩, .int .i64 s), (⟨w.heap.size, 3, none⟩, .int .i64 v), (⟨w.heap.size + 1, 0, none⟩, .int .i64 x0), (⟨w.heap.size + 1, 1, none⟩, .int .i64 x1), (⟨w.heap.size + 1, 2, none⟩, .int .i64 x2), (⟨w.heap.size + 1, 3, none⟩, .int .i64 x3), (⟨w.heap.size + 1, 4, none⟩, .int .i64 x4), (⟨w.heap.size + 2, 0, none⟩, .int .i64 0), (⟨w.heap.size + 2, 1, none⟩, .int .i64 0), (⟨w.heap.size + 2, 2, none⟩, .slice none 0 0)] w w1 := by
    refine Keeps.below ⟨?_, by first | (simp; done) | (simp; omega) | omega, by first | (simp [List.forall_mem_cons]; done) | (simp [List.forall_mem_cons]; omega), by simp [cellsAre_cons, cellsAre_nil, go_sem, World.cell?_alloc_past, *]⟩ hb
    (repeat (first | with_reducible apply Below.drew | with_reducible refine Below.setCell ?_ (by first | exact Nat.le_refl _ | (simp; done) | (simp; omega) | omega) _ | with_reducible refine Below.alloc ?_ (by first | exact Nat.le_refl _ | (simp; done) | (simp; omega) | omega) _ | with_reducible exact Below.refl _ _ | with_reducible assumption))
  clear hb
  try clear hk
  have hk := hk_new
  clear hk_new
  have hk' := hk
  obtain ⟨h1, h2, h3, h4⟩ := hk'
  simp only [cellsAre_cons, cellsAre_nil, and_true] at h4
  go_wp2_with fail
  refine (ref_may09 _ _ _ _ _ _).mono ?_
  rintro e w2 ⟨rfl, hb⟩
  have hk_new : Keeps (w.heap.size + 3) [(⟨w.heap.size, 0, none⟩, .int .i64 t), (⟨w.heap.size, 1, none⟩, .bool c), (⟨w.heap.size, 2, none⟩, .int .i64 s), (⟨w.heap.size, 3, none⟩, .int .i64 v), (⟨w.heap.size + 1, 0, none⟩, .int .i64 x0), (⟨w.heap.size + 1, 1, none⟩, .int .i64 x1), (⟨w.heap.size + 1, 2, none⟩, .int .i64 x2), (⟨w.heap.size + 1, 3, none⟩, .int .i64 x3), (⟨w.heap.size + 1, 4, none⟩, .int .i64 x4), (⟨w.heap.size + 2, 0, none⟩, .int .i64 0), (⟨w.heap.size + 2, 1, none⟩, .int .i64 0), (⟨w.heap.size + 2, 2, none⟩, .slice none 0 0)] w w2 := by
    refine Keeps.below ⟨?_, by first | (simp; done) | (simp; omega) | omega, by first | (simp [List.forall_mem_cons]; done) | (simp [List.forall_mem_cons]; omega), by simp [cellsAre_cons, cellsAre_nil, go_sem, World.cell?_alloc_past, *]⟩ hb
    (repeat (first | with_reducible apply Below.drew | with_reducible refine Below.setCell ?_ (by first | exact Nat.le_refl _ | (simp; done) | (simp; omega) | omega) _ | with_reducible refine Below.alloc ?_ (by first | exact Nat.le_refl _ | (simp; done) | (simp; omega) | omega) _ | with_reducible exact Below.refl _ _ | with_reducible assumption))
  clear hb
  try clear hk
  have hk := hk_new
  clear hk_new
  clear h1 h2 h3 h4
  have hk' := hk
  obtain ⟨h1, h2, h3, h4⟩ := hk'
  simp only [cellsAre_cons, cellsAre_nil, and_true] at h4
  have h2c := h2
  have lt0_b : w.heap.size < w2.heap.size := by omega
  have n0_b : ¬ w.heap.size = w2.heap.size := by omega
  have m0_b : ¬ w2.heap.size = w.heap.size := by omega
  have lt1_b : w.heap.size + 1 < w2.heap.size := by omega
  have n1_b : ¬ w.heap.size + 1 = w2.heap.size := by omega
  have m1_b : ¬ w2.heap.size = w.heap.size + 1 := by omega
  have lt2_b : w.heap.size + 1 + 1 < w2.heap.size := by omega
  have n2_b : ¬ w.heap.size + 1 + 1 = w2.heap.size := by omega
  have m2_b : ¬ w2.heap.size = w.heap.size + 1 + 1 := by omega
  have lt2p_b : w.heap.size + 2 < w2.heap.size := by omega
  have n2p_b : ¬ w.heap.size + 2 = w2.heap.size := by omega
  have m2p_b : ¬ w2.heap.size = w.heap.size + 2 := by omega
  go_wp2_with fail
  refine (ref_comes _ _ _ _ _ _ _ q1 q2).mono ?_
  rintro e w3 ⟨rfl, hb⟩
  have hk_new : Keeps (w2.heap.size + 1) [(⟨w2.heap.size, 0, none⟩, .int .i64 x3), (⟨w2.heap.size, 1, none⟩, .int .i64 0), (⟨w.heap.size, 0, none⟩, .int .i64 t), (⟨w.heap.size, 1, none⟩, .bool c), (⟨w.heap.size, 2, none⟩, .int .i64 s), (⟨w.heap.size, 3, none⟩, .int .i64 v), (⟨w.heap.size + 1, 0, none⟩, .int .i64 x0), (⟨w.heap.size + 1, 1, none⟩, .int .i64 x1), (⟨w.heap.size + 1, 2, none⟩, .int .i64 x2), (⟨w.heap.size + 1, 3, none⟩, .int .i64 x3), (⟨w.heap.size + 1, 4, none⟩, .int .i64 x4), (⟨w.heap.size + 2, 0, none⟩, .int .i64 0), (⟨w.heap.size + 2, 1, none⟩, .int .i64 0), (⟨w.heap.size + 2, 2, none⟩, .slice none 0 0)] w w3 := by
    refine Keeps.below ⟨?_, by first | (simp; done) | (simp; omega) | omega, by first | (simp [List.forall_mem_cons]; done) | (simp [List.forall_mem_cons]; omega), by simp [cellsAre_cons, cellsAre_nil, go_sem, World.cell?_alloc_past, *]⟩ hb
    (repeat (first | with_reducible apply Below.drew | with_reducible refine Below.setCell ?_ (by first | exact Nat.le_refl _ | (simp; done) | (simp; omega) | omega) _ | with_reducible refine Below.alloc ?_ (by first | exact Nat.le_refl _ | (simp; done) | (simp; omega) | omega) _ | with_reducible exact Below.refl _ _ | with_reducible assumption))
  clear hb
  try clear hk
  have hk := hk_new
  clear hk_new
  clear h1 h2 h3 h4
  have hk' := hk
  obtain ⟨h1, h2, h3, h4⟩ := hk'
  simp only [cellsAre_cons, cellsAre_nil, and_true] at h4
  clear lt0_b lt1_b lt2_b lt2p_b
  generalize w2.heap.size = b at *
  have ltb : b < w3.heap.size := by omega
  have nb' : ¬ b = w3.heap.size := by omega
  have mb' : ¬ w3.heap.size = b := by omega
  have lt0_f : w.heap.size < w3.heap.size := by omega
  have n0_f : ¬ w.heap.size = w3.heap.size := by omega
  have m0_f : ¬ w3.heap.size = w.heap.size := by omega
  have lt1_f : w.heap.size + 1 < w3.heap.size := by omega
  have n1_f : ¬ w.heap.size + 1 = w3.heap.size := by omega
  have m1_f : ¬ w3.heap.size = w.heap.size + 1 := by omega
  have lt2_f : w.heap.size + 1 + 1 < w3.heap.size := by omega
  have n2_f : ¬ w.heap.size + 1 + 1 = w3.heap.size := by omega
  have m2_f : ¬ w3.heap.size = w.heap.size + 1 + 1 := by omega
  have lt2p_f : w.heap.size + 2 < w3.heap.size := by omega
  have n2p_f : ¬ w.heap.size + 2 = w3.heap.size := by omega
  have m2p_f : ¬ w3.heap.size = w.heap.size + 2 := by omega
  go_wp2
  apply ret_of
  · simp only [results, Try.results33]
    go_simp
    with_reducible rfl
  refine ⟨rfl, ?_⟩
  refine ⟨w3.heap.size, rfl, h1.size, by simp, by simp [go_sem, *], by simp [go_sem, *], by simp [go_sem, *], by simp [go_sem, *], by (repeat (first | with_reducible apply Below.drew | with_reducible refine Below.setCell ?_ (by first | exact Nat.le_refl _ | (simp; done) | (simp; omega) | omega) _ | with_reducible refine Below.alloc ?_ (by first | exact Nat.le_refl _ | (simp; done) | (simp; omega) | omega) _ | with_reducible exact Below.refl _ _ | with_reducible assumption))⟩
end Go.Proofs.Ytifeokabecgimaa
