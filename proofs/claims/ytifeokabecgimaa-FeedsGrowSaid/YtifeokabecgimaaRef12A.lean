/-
  The walks over the document's 'Apply' and 'Decide' for aggregates.
-/
import Derived.Test.YtifeokabecgimaaProg
import Derived.Test.YtifeokabecgimaaSeq
import Derived.WalkKit
import Derived.WalkSpells
import Derived.WalkLawsBesides
import Derived.RowKit3
import Derived.Lib.Hide
import Derived.Test.YtifeokabecgimaaRef12
set_option linter.unusedSimpArgs false
set_option linter.unusedVariables false
set_option maxRecDepth 100000
namespace Go.Proofs.Ytifeokabecgimaa
open Go.RowKit Go.Sq Go.Arch

theorem mayS_bounds {t s v : Int} {c : Bool} (h : mayS ⟨t, c, s, v⟩ = true) : -1099511627776 ≤ s ∧ s ≤ 1099511627776 ∧ 0 ≤ v ∧ v ≤ 1099511627776 := by
  unfold mayS leastS at h
  rw [decide_eq_true_eq] at h
  dsimp only at h
  rcases h with ⟨_, _, h3, h4⟩ | ⟨_, _, h3, h4, h5, h6, _⟩
  · omega
  · split at h3 <;> omega

set_option maxHeartbeats 1000000 in
theorem ref_apply_no (t s v k a : Int) (c : Bool) (w : World) (h : mayS ⟨t, c, s, v⟩ = false ∨ comesS ⟨t, c, s, v⟩ ⟨k, a⟩ = false) :
    Calls Try.prog 34 #[.agg #[.int .i64 t, .bool c, .int .i64 s, .int .i64 v], .agg #[.int .i64 k, .int .i64 a]] w fun e w' =>
      e = .returned (.agg #[.int .i64 t, .bool c, .int .i64 s, .int .i64 v]) ∧ Below w.heap.size w w' := by
  cases hm : mayS ⟨t, c, s, v⟩
  · clear h
    go_enter Try.func34, Try.ntmps34
    go_wp2_with fail
    refine (ref_may _ _ _ _ _).mono ?_
    rintro e w1 ⟨rfl, hb⟩
    have hk_new : Keeps (w.heap.size + 3) [(⟨w.heap.size, 0, none⟩, .int .i64 t), (⟨w.heap.size, 1, none⟩, .bool c), (⟨w.heap.size, 2, none⟩, .int .i64 s), (⟨w.heap.size, 3, none⟩, .int .i64 v), (⟨w.heap.size + 1, 0, none⟩, .int .i64 k), (⟨w.heap.size + 1, 1, none⟩, .int .i64 a), (⟨w.heap.size + 2, 0, none⟩, .int .i64 0), (⟨w.heap.size + 2, 1, none⟩, .bool false), (⟨w.heap.size + 2, 2, none⟩, .int .i64 0), (⟨w.heap.size + 2, 3, none⟩, .int .i64 0)] w w1 := by
      refine Keeps.below ⟨?_, by first | (simp; done) | (simp; omega) | omega, by first | (simp [List.forall_mem_cons]; done) | (simp [List.forall_mem_cons]; omega), by simp [cellsAre_cons, cellsAre_nil, go_sem, World.cell?_alloc_past, *]⟩ hb
      (repeat (first | with_reducible apply Below.drew | with_reducible refine Below.setCell ?_ (by first | exact Nat.le_refl _ | (simp; done) | (simp; omega) | omega) _ | with_reducible refine Below.alloc ?_ (by first | exact Nat.le_refl _ | (simp; done) | (simp; omega) | omega) _ | with_reducible exact Below.refl _ _ | with_reducible assumption))
    clear hb
    try clear hk
    have hk := hk_new
    clear hk_new
    have hk' := hk
    obtain ⟨h1, h2, h3, h4⟩ := hk'
    simp only [cellsAre_cons, cellsAre_nil, and_true] at h4
    go_wp2
    apply ret_of
    · simp only [results, Try.results34]
      go_simp
      with_reducible rfl
    refine ⟨rfl, ?_⟩
    exact ⟨rfl, by (repeat (first | with_reducible apply Below.drew | with_reducible refine Below.setCell ?_ (by first | exact Nat.le_refl _ | (simp; done) | (simp; omega) | omega) _ | with_reducible refine Below.alloc ?_ (by first | exact Nat.le_refl _ | (simp; done) | (simp; omega) | omega) _ | with_reducible exact Below.refl _ _ | with_reducible assumption))⟩
  · have hc : comesS ⟨t, c, s, v⟩ ⟨k, a⟩ = false := by
      rcases h with h | h
      · rw [hm] at h; cases h
      · exact h
    clear h
    obtain ⟨q1, q2, _, _⟩ := mayS_bounds hm
    go_enter Try.func34, Try.ntmps34
    go_wp2_with fail
    refine (ref_may _ _ _ _ _).mono ?_
    rintro e w1 ⟨rfl, hb⟩
    have hk_new : Keeps (w.heap.size + 3) [(⟨w.heap.size, 0, none⟩, .int .i64 t), (⟨w.heap.size, 1, none⟩, .bool c), (⟨w.heap.size, 2, none⟩, .int .i64 s), (⟨w.heap.size, 3, none⟩, .int .i64 v), (⟨w.heap.size + 1, 0, none⟩, .int .i64 k), (⟨w.heap.size + 1, 1, none⟩, .int .i64 a), (⟨w.heap.size + 2, 0, none⟩, .int .i64 0), (⟨w.heap.size + 2, 1, none⟩, .bool false), (⟨w.heap.size + 2, 2, none⟩, .int .i64 0), (⟨w.heap.size + 2, 3, none⟩, .int .i64 0)] w w1 := by
      refine Keeps.below ⟨?_, by first | (simp; done) | (simp; omega) | omega, by first | (simp [List.forall_mem_cons]; done) | (simp [List.forall_mem_cons]; omega), by simp [cellsAre_cons, cellsAre_nil, go_sem, World.cell?_alloc_past, *]⟩ hb
      (repeat (first | with_reducible apply Below.drew | with_reducible refine Below.setCell ?_ (by first | exact Nat.le_refl _ | (simp; done) | (simp; omega) | omega) _ | with_reducible refine Below.alloc ?_ (by first | exact Nat.le_refl _ | (simp; done) | (simp; omega) | omega) _ | with_reducible exact Below.refl _ _ | with_reducible assumption))
    clear hb
    try clear hk
    have hk := hk_new
    clear hk_new
    have hk' := hk
    obtain ⟨h1, h2, h3, h4⟩ := hk'
    simp only [cellsAre_cons, cellsAre_nil, and_true] at h4
    go_wp2_with fail
    refine (ref_comes _ _ _ _ _ _ _ q1 q2).mono ?_
    rintro e w2 ⟨rfl, hb⟩
    have hk_new : Keeps (w.heap.size + 3) [(⟨w.heap.size, 0, none⟩, .int .i64 t), (⟨w.heap.size, 1, none⟩, .bool c), (⟨w.heap.size, 2, none⟩, .int .i64 s), (⟨w.heap.size, 3, none⟩, .int .i64 v), (⟨w.heap.size + 1, 0, none⟩, .int .i64 k), (⟨w.heap.size + 1, 1, none⟩, .int .i64 a), (⟨w.heap.size + 2, 0, none⟩, .int .i64 0), (⟨w.heap.size + 2, 1, none⟩, .bool false), (⟨w.heap.size + 2, 2, none⟩, .int .i64 0), (⟨w.heap.size + 2, 3, none⟩, .int .i64 0)] w w2 := by
      refine Keeps.below ⟨?_, by first | (simp; done) | (simp; omega) | omega, by first | (simp [List.forall_mem_cons]; done) | (simp [List.forall_mem_cons]; omega), by simp [cellsAre_cons, cellsAre_nil, go_sem, World.cell?_alloc_past, *]⟩ hb
      (repeat (first | with_reducible apply Below.drew | with_reducible refine Below.setCell ?_ (by first | exact Nat.le_refl _ | (simp; done) | (simp; omega) | omega) _ | with_reducible refine Below.alloc ?_ (by first | exact Nat.le_refl _ | (simp; done) | (simp; omega) | omega) _ | with_reducible exact Below.refl _ _ | with_reducible assumption))
    clear hb
    try clear hk
    have hk := hk_new
    clear hk_new
    clear h1 h2 h3 h4
    have hk' := hk
    obtain ⟨h1, h2, h3, h4⟩ := hk'
    simp only [cellsAre_cons, cellsAre_nil, and_true] at h4
    go_wp2
    apply ret_of
    · simp only [results, Try.results34]
      go_simp
      with_reducible rfl
    refine ⟨rfl, ?_⟩
    exact ⟨rfl, by (repeat (first | with_reducible apply Below.drew | with_reducible refine Below.setCell ?_ (by first | exact Nat.le_refl _ | (simp; done) | (simp; omega) | omega) _ | with_reducible refine Below.alloc ?_ (by first | exact Nat.le_refl _ | (simp; done) | (simp; omega) | omega) _ | with_reducible exact Below.refl _ _ | with_reducible assumption))⟩

set_option maxHeartbeats 1000000 in
theorem ref_apply_1 (t s v a : Int) (c : Bool) (w : World) (hm : mayS ⟨t, c, s, v⟩ = true) (hc : comesS ⟨t, c, s, v⟩ ⟨1, a⟩ = true) :
    Calls Try.prog 34 #[.agg #[.int .i64 t, .bool c, .int .i64 s, .int .i64 v], .agg #[.int .i64 1, .int .i64 a]] w fun e w' =>
      e = .returned (.agg #[.int .i64 a, .bool c, .int .i64 (s), .int .i64 (v + 1)]) ∧ Below w.heap.size w w' := by
  obtain ⟨q1, q2, q3, q4⟩ := mayS_bounds hm
  go_enter Try.func34, Try.ntmps34
  go_wp2_with fail
  refine (ref_may _ _ _ _ _).mono ?_
  rintro e w1 ⟨rfl, hb⟩
  have hk_new : Keeps (w.heap.size + 3) [(⟨w.heap.size, 0, none⟩, .int .i64 t), (⟨w.heap.size, 1, none⟩, .bool c), (⟨w.heap.size, 2, none⟩, .int .i64 s), (⟨w.heap.size, 3, none⟩, .int .i64 v), (⟨w.heap.size + 1, 0, none⟩, .int .i64 1), (⟨w.heap.size + 1, 1, none⟩, .int .i64 a), (⟨w.heap.size + 2, 0, none⟩, .int .i64 0), (⟨w.heap.size + 2, 1, none⟩, .bool false), (⟨w.heap.size + 2, 2, none⟩, .int .i64 0), (⟨w.heap.size + 2, 3, none⟩, .int .i64 0)] w w1 := by
    refine Keeps.below ⟨?_, by first | (simp; done) | (simp; omega) | omega, by first | (simp [List.forall_mem_cons]; done) | (simp [List.forall_mem_cons]; omega), by simp [cellsAre_cons, cellsAre_nil, go_sem, World.cell?_alloc_past, *]⟩ hb
    (repeat (first | with_reducible apply Below.drew | with_reducible refine Below.setCell ?_ (by first | exact Nat.le_refl _ | (simp; done) | (simp; omega) | omega) _ | with_reducible refine Below.alloc ?_ (by first | exact Nat.le_refl _ | (simp; done) | (simp; omega) | omega) _ | with_reducible exact Below.refl _ _ | with_reducible assumption))
  clear hb
  try clear hk
  have hk := hk_new
  clear hk_new
  have hk' := hk
  obtain ⟨h1, h2, h3, h4⟩ := hk'
  simp only [cellsAre_cons, cellsAre_nil, and_true] at h4
  go_wp2_with fail
  refine (ref_comes _ _ _ _ _ _ _ q1 q2).mono ?_
  rintro e w2 ⟨rfl, hb⟩
  have hk_new : Keeps (w.heap.size + 3) [(⟨w.heap.size, 0, none⟩, .int .i64 t), (⟨w.heap.size, 1, none⟩, .bool c), (⟨w.heap.size, 2, none⟩, .int .i64 s), (⟨w.heap.size, 3, none⟩, .int .i64 v), (⟨w.heap.size + 1, 0, none⟩, .int .i64 1), (⟨w.heap.size + 1, 1, none⟩, .int .i64 a), (⟨w.heap.size + 2, 0, none⟩, .int .i64 0), (⟨w.heap.size + 2, 1, none⟩, .bool false), (⟨w.heap.size + 2, 2, none⟩, .int .i64 0), (⟨w.heap.size + 2, 3, none⟩, .int .i64 0)] w w2 := by
    refine Keeps.below ⟨?_, by first | (simp; done) | (simp; omega) | omega, by first | (simp [List.forall_mem_cons]; done) | (simp [List.forall_mem_cons]; omega), by simp [cellsAre_cons, cellsAre_nil, go_sem, World.cell?_alloc_past, *]⟩ hb
    (repeat (first | with_reducible apply Below.drew | with_reducible refine Below.setCell ?_ (by first | exact Nat.le_refl _ | (simp; done) | (simp; omega) | omega) _ | with_reducible refine Below.alloc ?_ (by first | exact Nat.le_refl _ | (simp; done) | (simp; omega) | omega) _ | with_reducible exact Below.refl _ _ | with_reducible assumption))
  clear hb
  try clear hk
  have hk := hk_new
  clear hk_new
  clear h1 h2 h3 h4
  have hk' := hk
  obtain ⟨h1, h2, h3, h4⟩ := hk'
  simp only [cellsAre_cons, cellsAre_nil, and_true] at h4
  go_wp2
  apply ret_of
  · simp only [results, Try.results34]
    go_simp
    with_reducible rfl
  refine ⟨rfl, ?_⟩
  exact ⟨rfl, by (repeat (first | with_reducible apply Below.drew | with_reducible refine Below.setCell ?_ (by first | exact Nat.le_refl _ | (simp; done) | (simp; omega) | omega) _ | with_reducible refine Below.alloc ?_ (by first | exact Nat.le_refl _ | (simp; done) | (simp; omega) | omega) _ | with_reducible exact Below.refl _ _ | with_reducible assumption))⟩

set_option maxHeartbeats 1000000 in
theorem ref_apply_2 (t s v a : Int) (c : Bool) (w : World) (hm : mayS ⟨t, c, s, v⟩ = true) (hc : comesS ⟨t, c, s, v⟩ ⟨2, a⟩ = true) (qa : a ≤ 1099511627776 - s) (qb : 1 ≤ a) :
    Calls Try.prog 34 #[.agg #[.int .i64 t, .bool c, .int .i64 s, .int .i64 v], .agg #[.int .i64 2, .int .i64 a]] w fun e w' =>
      e = .returned (.agg #[.int .i64 t, .bool c, .int .i64 (s + a), .int .i64 (v + 1)]) ∧ Below w.heap.size w w' := by
  obtain ⟨q1, q2, q3, q4⟩ := mayS_bounds hm
  go_enter Try.func34, Try.ntmps34
  go_wp2_with fail
  refine (ref_may _ _ _ _ _).mono ?_
  rintro e w1 ⟨rfl, hb⟩
  have hk_new : Keeps (w.heap.size + 3) [(⟨w.heap.size, 0, none⟩, .int .i64 t), (⟨w.heap.size, 1, none⟩, .bool c), (⟨w.heap.size, 2, none⟩, .int .i64 s), (⟨w.heap.size, 3, none⟩, .int .i64 v), (⟨w.heap.size + 1, 0, none⟩, .int .i64 2), (⟨w.heap.size + 1, 1, none⟩, .int .i64 a), (⟨w.heap.size + 2, 0, none⟩, .int .i64 0), (⟨w.heap.size + 2, 1, none⟩, .bool false), (⟨w.heap.size + 2, 2, none⟩, .int .i64 0), (⟨w.heap.size + 2, 3, none⟩, .int .i64 0)] w w1 := by
    refine Keeps.below ⟨?_, by first | (simp; done) | (simp; omega) | omega, by first | (simp [List.forall_mem_cons]; done) | (simp [List.forall_mem_cons]; omega), by simp [cellsAre_cons, cellsAre_nil, go_sem, World.cell?_alloc_past, *]⟩ hb
    (repeat (first | with_reducible apply Below.drew | with_reducible refine Below.setCell ?_ (by first | exact Nat.le_refl _ | (simp; done) | (simp; omega) | omega) _ | with_reducible refine Below.alloc ?_ (by first | exact Nat.le_refl _ | (simp; done) | (simp; omega) | omega) _ | with_reducible exact Below.refl _ _ | with_reducible assumption))
  clear hb
  try clear hk
  have hk := hk_new
  clear hk_new
  have hk' := hk
  obtain ⟨h1, h2, h3, h4⟩ := hk'
  simp only [cellsAre_cons, cellsAre_nil, and_true] at h4
  go_wp2_with fail
  refine (ref_comes _ _ _ _ _ _ _ q1 q2).mono ?_
  rintro e w2 ⟨rfl, hb⟩
  have hk_new : Keeps (w.heap.size + 3) [(⟨w.heap.size, 0, none⟩, .int .i64 t), (⟨w.heap.size, 1, none⟩, .bool c), (⟨w.heap.size, 2, none⟩, .int .i64 s), (⟨w.heap.size, 3, none⟩, .int .i64 v), (⟨w.heap.size + 1, 0, none⟩, .int .i64 2), (⟨w.heap.size + 1, 1, none⟩, .int .i64 a), (⟨w.heap.size + 2, 0, none⟩, .int .i64 0), (⟨w.heap.size + 2, 1, none⟩, .bool false), (⟨w.heap.size + 2, 2, none⟩, .int .i64 0), (⟨w.heap.size + 2, 3, none⟩, .int .i64 0)] w w2 := by
    refine Keeps.below ⟨?_, by first | (simp; done) | (simp; omega) | omega, by first | (simp [List.forall_mem_cons]; done) | (simp [List.forall_mem_cons]; omega), by simp [cellsAre_cons, cellsAre_nil, go_sem, World.cell?_alloc_past, *]⟩ hb
    (repeat (first | with_reducible apply Below.drew | with_reducible refine Below.setCell ?_ (by first | exact Nat.le_refl _ | (simp; done) | (simp; omega) | omega) _ | with_reducible refine Below.alloc ?_ (by first | exact Nat.le_refl _ | (simp; done) | (simp; omega) | omega) _ | with_reducible exact Below.refl _ _ | with_reducible assumption))
  clear hb
  try clear hk
  have hk := hk_new
  clear hk_new
  clear h1 h2 h3 h4
  have hk' := hk
  obtain ⟨h1, h2, h3, h4⟩ := hk'
  simp only [cellsAre_cons, cellsAre_nil, and_true] at h4
  go_wp2
  apply ret_of
  · simp only [results, Try.results34]
    go_simp
    with_reducible rfl
  refine ⟨rfl, ?_⟩
  exact ⟨rfl, by (repeat (first | with_reducible apply Below.drew | with_reducible refine Below.setCell ?_ (by first | exact Nat.le_refl _ | (simp; done) | (simp; omega) | omega) _ | with_reducible refine Below.alloc ?_ (by first | exact Nat.le_refl _ | (simp; done) | (simp; omega) | omega) _ | with_reducible exact Below.refl _ _ | with_reducible assumption))⟩

set_option maxHeartbeats 1000000 in
theorem ref_apply_3 (t s v a : Int) (c : Bool) (w : World) (hm : mayS ⟨t, c, s, v⟩ = true) (hc : comesS ⟨t, c, s, v⟩ ⟨3, a⟩ = true) (qa : a ≤ s + 1099511627776) (qb : 1 ≤ a) :
    Calls Try.prog 34 #[.agg #[.int .i64 t, .bool c, .int .i64 s, .int .i64 v], .agg #[.int .i64 3, .int .i64 a]] w fun e w' =>
      e = .returned (.agg #[.int .i64 t, .bool c, .int .i64 (s - a), .int .i64 (v + 1)]) ∧ Below w.heap.size w w' := by
  obtain ⟨q1, q2, q3, q4⟩ := mayS_bounds hm
  go_enter Try.func34, Try.ntmps34
  go_wp2_with fail
  refine (ref_may _ _ _ _ _).mono ?_
  rintro e w1 ⟨rfl, hb⟩
  have hk_new : Keeps (w.heap.size + 3) [(⟨w.heap.size, 0, none⟩, .int .i64 t), (⟨w.heap.size, 1, none⟩, .bool c), (⟨w.heap.size, 2, none⟩, .int .i64 s), (⟨w.heap.size, 3, none⟩, .int .i64 v), (⟨w.heap.size + 1, 0, none⟩, .int .i64 3), (⟨w.heap.size + 1, 1, none⟩, .int .i64 a), (⟨w.heap.size + 2, 0, none⟩, .int .i64 0), (⟨w.heap.size + 2, 1, none⟩, .bool false), (⟨w.heap.size + 2, 2, none⟩, .int .i64 0), (⟨w.heap.size + 2, 3, none⟩, .int .i64 0)] w w1 := by
    refine Keeps.below ⟨?_, by first | (simp; done) | (simp; omega) | omega, by first | (simp [List.forall_mem_cons]; done) | (simp [List.forall_mem_cons]; omega), by simp [cellsAre_cons, cellsAre_nil, go_sem, World.cell?_alloc_past, *]⟩ hb
    (repeat (first | with_reducible apply Below.drew | with_reducible refine Below.setCell ?_ (by first | exact Nat.le_refl _ | (simp; done) | (simp; omega) | omega) _ | with_reducible refine Below.alloc ?_ (by first | exact Nat.le_refl _ | (simp; done) | (simp; omega) | omega) _ | with_reducible exact Below.refl _ _ | with_reducible assumption))
  clear hb
  try clear hk
  have hk := hk_new
  clear hk_new
  have hk' := hk
  obtain ⟨h1, h2, h3, h4⟩ := hk'
  simp only [cellsAre_cons, cellsAre_nil, and_true] at h4
  go_wp2_with fail
  refine (ref_comes _ _ _ _ _ _ _ q1 q2).mono ?_
  rintro e w2 ⟨rfl, hb⟩
  have hk_new : Keeps (w.heap.size + 3) [(⟨w.heap.size, 0, none⟩, .int .i64 t), (⟨w.heap.size, 1, none⟩, .bool c), (⟨w.heap.size, 2, none⟩, .int .i64 s), (⟨w.heap.size, 3, none⟩, .int .i64 v), (⟨w.heap.size + 1, 0, none⟩, .int .i64 3), (⟨w.heap.size + 1, 1, none⟩, .int .i64 a), (⟨w.heap.size + 2, 0, none⟩, .int .i64 0), (⟨w.heap.size + 2, 1, none⟩, .bool false), (⟨w.heap.size + 2, 2, none⟩, .int .i64 0), (⟨w.heap.size + 2, 3, none⟩, .int .i64 0)] w w2 := by
    refine Keeps.below ⟨?_, by first | (simp; done) | (simp; omega) | omega, by first | (simp [List.forall_mem_cons]; done) | (simp [List.forall_mem_cons]; omega), by simp [cellsAre_cons, cellsAre_nil, go_sem, World.cell?_alloc_past, *]⟩ hb
    (repeat (first | with_reducible apply Below.drew | with_reducible refine Below.setCell ?_ (by first | exact Nat.le_refl _ | (simp; done) | (simp; omega) | omega) _ | with_reducible refine Below.alloc ?_ (by first | exact Nat.le_refl _ | (simp; done) | (simp; omega) | omega) _ | with_reducible exact Below.refl _ _ | with_reducible assumption))
  clear hb
  try clear hk
  have hk := hk_new
  clear hk_new
  clear h1 h2 h3 h4
  have hk' := hk
  obtain ⟨h1, h2, h3, h4⟩ := hk'
  simp only [cellsAre_cons, cellsAre_nil, and_true] at h4
  go_wp2
  apply ret_of
  · simp only [results, Try.results34]
    go_simp
    with_reducible rfl
  refine ⟨rfl, ?_⟩
  exact ⟨rfl, by (repeat (first | with_reducible apply Below.drew | with_reducible refine Below.setCell ?_ (by first | exact Nat.le_refl _ | (simp; done) | (simp; omega) | omega) _ | with_reducible refine Below.alloc ?_ (by first | exact Nat.le_refl _ | (simp; done) | (simp; omega) | omega) _ | with_reducible exact Below.refl _ _ | with_reducible assumption))⟩

set_option maxHeartbeats 1000000 in
theorem ref_apply_4 (t s v a : Int) (c : Bool) (w : World) (hm : mayS ⟨t, c, s, v⟩ = true) (hc : comesS ⟨t, c, s, v⟩ ⟨4, a⟩ = true) :
    Calls Try.prog 34 #[.agg #[.int .i64 t, .bool c, .int .i64 s, .int .i64 v], .agg #[.int .i64 4, .int .i64 a]] w fun e w' =>
      e = .returned (.agg #[.int .i64 t, .bool true, .int .i64 (s), .int .i64 (v + 1)]) ∧ Below w.heap.size w w' := by
  obtain ⟨q1, q2, q3, q4⟩ := mayS_bounds hm
  go_enter Try.func34, Try.ntmps34
  go_wp2_with fail
  refine (ref_may _ _ _ _ _).mono ?_
  rintro e w1 ⟨rfl, hb⟩
  have hk_new : Keeps (w.heap.size + 3) [(⟨w.heap.size, 0, none⟩, .int .i64 t), (⟨w.heap.size, 1, none⟩, .bool c), (⟨w.heap.size, 2, none⟩, .int .i64 s), (⟨w.heap.size, 3, none⟩, .int .i64 v), (⟨w.heap.size + 1, 0, none⟩, .int .i64 4), (⟨w.heap.size + 1, 1, none⟩, .int .i64 a), (⟨w.heap.size + 2, 0, none⟩, .int .i64 0), (⟨w.heap.size + 2, 1, none⟩, .bool false), (⟨w.heap.size + 2, 2, none⟩, .int .i64 0), (⟨w.heap.size + 2, 3, none⟩, .int .i64 0)] w w1 := by
    refine Keeps.below ⟨?_, by first | (simp; done) | (simp; omega) | omega, by first | (simp [List.forall_mem_cons]; done) | (simp [List.forall_mem_cons]; omega), by simp [cellsAre_cons, cellsAre_nil, go_sem, World.cell?_alloc_past, *]⟩ hb
    (repeat (first | with_reducible apply Below.drew | with_reducible refine Below.setCell ?_ (by first | exact Nat.le_refl _ | (simp; done) | (simp; omega) | omega) _ | with_reducible refine Below.alloc ?_ (by first | exact Nat.le_refl _ | (simp; done) | (simp; omega) | omega) _ | with_reducible exact Below.refl _ _ | with_reducible assumption))
  clear hb
  try clear hk
  have hk := hk_new
  clear hk_new
  have hk' := hk
  obtain ⟨h1, h2, h3, h4⟩ := hk'
  simp only [cellsAre_cons, cellsAre_nil, and_true] at h4
  go_wp2_with fail
  refine (ref_comes _ _ _ _ _ _ _ q1 q2).mono ?_
  rintro e w2 ⟨rfl, hb⟩
  have hk_new : Keeps (w.heap.size + 3) [(⟨w.heap.size, 0, none⟩, .int .i64 t), (⟨w.heap.size, 1, none⟩, .bool c), (⟨w.heap.size, 2, none⟩, .int .i64 s), (⟨w.heap.size, 3, none⟩, .int .i64 v), (⟨w.heap.size + 1, 0, none⟩, .int .i64 4), (⟨w.heap.size + 1, 1, none⟩, .int .i64 a), (⟨w.heap.size + 2, 0, none⟩, .int .i64 0), (⟨w.heap.size + 2, 1, none⟩, .bool false), (⟨w.heap.size + 2, 2, none⟩, .int .i64 0), (⟨w.heap.size + 2, 3, none⟩, .int .i64 0)] w w2 := by
    refine Keeps.below ⟨?_, by first | (simp; done) | (simp; omega) | omega, by first | (simp [List.forall_mem_cons]; done) | (simp [List.forall_mem_cons]; omega), by simp [cellsAre_cons, cellsAre_nil, go_sem, World.cell?_alloc_past, *]⟩ hb
    (repeat (first | with_reducible apply Below.drew | with_reducible refine Below.setCell ?_ (by first | exact Nat.le_refl _ | (simp; done) | (simp; omega) | omega) _ | with_reducible refine Below.alloc ?_ (by first | exact Nat.le_refl _ | (simp; done) | (simp; omega) | omega) _ | with_reducible exact Below.refl _ _ | with_reducible assumption))
  clear hb
  try clear hk
  have hk := hk_new
  clear hk_new
  clear h1 h2 h3 h4
  have hk' := hk
  obtain ⟨h1, h2, h3, h4⟩ := hk'
  simp only [cellsAre_cons, cellsAre_nil, and_true] at h4
  go_wp2
  apply ret_of
  · simp only [results, Try.results34]
    go_simp
    with_reducible rfl
  refine ⟨rfl, ?_⟩
  exact ⟨rfl, by (repeat (first | with_reducible apply Below.drew | with_reducible refine Below.setCell ?_ (by first | exact Nat.le_refl _ | (simp; done) | (simp; omega) | omega) _ | with_reducible refine Below.alloc ?_ (by first | exact Nat.le_refl _ | (simp; done) | (simp; omega) | omega) _ | with_reducible exact Below.refl _ _ | with_reducible assumption))⟩

theorem ref_apply_any (t s v k a : Int) (c : Bool) (w : World) :
    Calls Try.prog 34 #[.agg #[.int .i64 t, .bool c, .int .i64 s, .int .i64 v], .agg #[.int .i64 k, .int .i64 a]] w fun e w' =>
      e = .returned (.agg #[.int .i64 (applyS ⟨t, c, s, v⟩ ⟨k, a⟩).tag, .bool (applyS ⟨t, c, s, v⟩ ⟨k, a⟩).closed, .int .i64 (applyS ⟨t, c, s, v⟩ ⟨k, a⟩).sum, .int .i64 (applyS ⟨t, c, s, v⟩ ⟨k, a⟩).ver]) ∧ Below w.heap.size w w' := by
  cases hm : mayS ⟨t, c, s, v⟩
  · have hp : applyS ⟨t, c, s, v⟩ ⟨k, a⟩ = ⟨t, c, s, v⟩ := by unfold applyS; rw [if_neg]; rintro ⟨h, _⟩; rw [hm] at h; cases h
    rw [hp]
    exact ref_apply_no t s v k a c w (.inl hm)
  cases hc : comesS ⟨t, c, s, v⟩ ⟨k, a⟩
  · rw [applyS_not hc]
    exact ref_apply_no t s v k a c w (.inr hc)
  have hd := hc
  simp [comesS] at hd
  obtain ⟨_, rfl, hd⟩ := hd
  obtain ⟨q1, q2, q3, q4⟩ := mayS_bounds hm
  rcases hd with ⟨rfl, rfl, h1, h2⟩ | ⟨rfl, h0, h1, h2⟩ | ⟨rfl, h0, h1, h2⟩ | ⟨rfl, h0, h1, h2⟩
  · have hp : applyS ⟨0, false, s, v⟩ ⟨1, a⟩ = ⟨a, false, s, v + 1⟩ := by simp [applyS, hm, hc]
    rw [hp]
    exact ref_apply_1 0 s v a false w hm hc
  · have hp : applyS ⟨t, false, s, v⟩ ⟨2, a⟩ = ⟨t, false, s + a, v + 1⟩ := by simp [applyS, hm, hc]
    rw [hp]
    exact ref_apply_2 t s v a false w hm hc h2 h1
  · have hp : applyS ⟨t, false, s, v⟩ ⟨3, a⟩ = ⟨t, false, s - a, v + 1⟩ := by simp [applyS, hm, hc]
    rw [hp]
    exact ref_apply_3 t s v a false w hm hc (by simp [leastS] at h2; split at h2 <;> omega) h1
  · subst h1; subst h2
    have hp : applyS ⟨t, false, 0, v⟩ ⟨4, 0⟩ = ⟨t, true, 0, v + 1⟩ := by simp [applyS, hm, hc]
    rw [hp]
    exact ref_apply_4 t 0 v 0 false w hm hc
end Go.Proofs.Ytifeokabecgimaa
