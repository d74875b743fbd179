/-
  The walk over 'deeds.Decide'.
-/
import Derived.Test.YtifeokabecgimaaProg
import Derived.Test.YtifeokabecgimaaSeq
import Derived.WalkKit
import Derived.WalkSpells
import Derived.WalkLawsBesides
import Derived.RowKit3
import Derived.Lib.Hide
import Derived.Test.YtifeokabecgimaaApplyAny
import Derived.Test.YtifeokabecgimaaOrders
set_option linter.unusedSimpArgs false
set_option linter.unusedVariables false
set_option maxRecDepth 100000
namespace Go.Proofs.Ytifeokabecgimaa
open Go.RowKit Go.Sq Go.Arch

/-- An order that was accepted: its version, and its one event, in new memory. -/
def OutNew (w w' : World) (ver k a : Int) (e : Ending) : Prop := ∃ g, e = .returned (.agg #[.int .i64 1, .int .i64 ver, .slice (some ⟨g, 0, none⟩) 1 1]) ∧ w.heap.size ≤ g ∧ g < w'.heap.size ∧
  w'.cell? ⟨g, 0, none⟩ = some (.int .i64 k) ∧ w'.cell? ⟨g, 1, none⟩ = some (.int .i64 a) ∧ w'.frozen? ⟨g, 0, none⟩ = false ∧ w'.frozen? ⟨g, 1, none⟩ = false ∧ Below w.heap.size w w'

set_option maxHeartbeats 1000000 in
theorem decide_bad (t s v x0 x1 x2 x3 x4 : Int) (c : Bool) (w : World) (hm : mayS ⟨t, c, s, v⟩ = false) :
    Calls Try.prog 24 #[.agg #[.int .i64 t, .bool c, .int .i64 s, .int .i64 v], .agg #[.int .i64 x0, .int .i64 x1, .int .i64 x2, .int .i64 x3, .int .i64 x4]] w fun e w' =>
      e = .returned (.agg #[.int .i64 7, .int .i64 0, .slice none 0 0]) ∧ Below w.heap.size w w' := by
  go_enter Try.func24, Try.ntmps24
  go_wp2_with fail
  refine (may_any _ _ _ _ _).mono ?_
  rintro e w1 ⟨rfl, hb⟩
  have hk_new : Keeps (w.heap.size + 4) [(⟨w.heap.size, 0, none⟩, .int .i64 t), (⟨w.heap.size, 1, none⟩, .bool c), (⟨w.heap.size, 2, none⟩, .int .i64 s), (⟨w.heap.size, 3, none⟩, .int .i64 v), (⟨w.heap.size + 1, 0, none⟩, .int .i64 x0), (⟨w.heap.size + 1, 1, none⟩, .int .i64 x1), (⟨w.heap.size + 1, 2, none⟩, .int .i64 x2), (⟨w.heap.size + 1, 3, none⟩, .int .i64 x3), (⟨w.heap.size + 1, 4, none⟩, .int .i64 x4), (⟨w.heap.size + 2, 0, none⟩, .int .i64 0), (⟨w.heap.size + 2, 1, none⟩, .int .i64 0), (⟨w.heap.size + 2, 2, none⟩, .slice none 0 0), (⟨w.heap.size + 3, 0, none⟩, .int .i64 7), (⟨w.heap.size + 3, 1, none⟩, .int .i64 0), (⟨w.heap.size + 3, 2, none⟩, .slice none 0 0)] w w1 := by
    refine Keeps.below ⟨?_, by first | (simp; done) | (simp; omega) | omega, by first | (simp [List.forall_mem_cons]; done) | (simp [List.forall_mem_cons]; omega), by simp [cellsAre_cons, cellsAre_nil, go_sem, World.cell?_alloc_past, *]⟩ hb
    (repeat (first | with_reducible apply Below.drew | with_reducible refine Below.setCell ?_ (by first | exact Nat.le_refl _ | (simp; done) | (simp; omega) | omega) _ | with_reducible refine Below.alloc ?_ (by first | exact Nat.le_refl _ | (simp; done) | (simp; omega) | omega) _ | with_reducible exact Below.refl _ _ | with_reducible assumption))
  clear hb
  try clear hk
  have hk := hk_new
  clear hk_new
  have hk' := hk
  obtain ⟨h1, h2, h3, h4⟩ := hk'
  simp only [cellsAre_cons, cellsAre_nil, and_true] at h4
  go_wp2
  apply ret_of
  · simp only [results, Try.results24]
    go_simp
    with_reducible rfl
  refine ⟨rfl, ?_⟩
  exact ⟨rfl, by (repeat (first | with_reducible apply Below.drew | with_reducible refine Below.setCell ?_ (by first | exact Nat.le_refl _ | (simp; done) | (simp; omega) | omega) _ | with_reducible refine Below.alloc ?_ (by first | exact Nat.le_refl _ | (simp; done) | (simp; omega) | omega) _ | with_reducible exact Below.refl _ _ | with_reducible assumption))⟩

set_option maxHeartbeats 2000000 in
theorem decide_B0 (t s v x0 x1 x2 x3 x4 : Int) (c : Bool) (w : World) (hm : mayS ⟨t, c, s, v⟩ = true) (hx : (x3 == 4) = false) (ho : errOf (ordOk ⟨x0, x1, x2, x3, x4⟩) = 2) :
    Calls Try.prog 24 #[.agg #[.int .i64 t, .bool c, .int .i64 s, .int .i64 v], .agg #[.int .i64 x0, .int .i64 x1, .int .i64 x2, .int .i64 x3, .int .i64 x4]] w fun e w' =>
      e = .returned (.agg #[.int .i64 7, .int .i64 v, .slice none 0 0]) ∧ Below w.heap.size w w' := by
  go_enter Try.func24, Try.ntmps24
  go_wp2_with fail
  refine (may_any _ _ _ _ _).mono ?_
  rintro e w1 ⟨rfl, hb⟩
  have hk_new : Keeps (w.heap.size + 4) [(⟨w.heap.size, 0, none⟩, .int .i64 t), (⟨w.heap.size, 1, none⟩, .bool c), (⟨w.heap.size, 2, none⟩, .int .i64 s), (⟨w.heap.size, 3, none⟩, .int .i64 v), (⟨w.heap.size + 1, 0, none⟩, .int .i64 x0), (⟨w.heap.size + 1, 1, none⟩, .int .i64 x1), (⟨w.heap.size + 1, 2, none⟩, .int .i64 x2), (⟨w.heap.size + 1, 3, none⟩, .int .i64 x3), (⟨w.heap.size + 1, 4, none⟩, .int .i64 x4), (⟨w.heap.size + 2, 0, none⟩, .int .i64 0), (⟨w.heap.size + 2, 1, none⟩, .int .i64 0), (⟨w.heap.size + 2, 2, none⟩, .slice none 0 0), (⟨w.heap.size + 3, 0, none⟩, .int .i64 7), (⟨w.heap.size + 3, 1, none⟩, .int .i64 0), (⟨w.heap.size + 3, 2, none⟩, .slice none 0 0)] w w1 := by
    refine Keeps.below ⟨?_, by first | (simp; done) | (simp; omega) | omega, by first | (simp [List.forall_mem_cons]; done) | (simp [List.forall_mem_cons]; omega), by simp [cellsAre_cons, cellsAre_nil, go_sem, World.cell?_alloc_past, *]⟩ hb
    (repeat (first | with_reducible apply Below.drew | with_reducible refine Below.setCell ?_ (by first | exact Nat.le_refl _ | (simp; done) | (simp; omega) | omega) _ | with_reducible refine Below.alloc ?_ (by first | exact Nat.le_refl _ | (simp; done) | (simp; omega) | omega) _ | with_reducible exact Below.refl _ _ | with_reducible assumption))
  clear hb
  try clear hk
  have hk := hk_new
  clear hk_new
  have hk' := hk
  obtain ⟨h1, h2, h3, h4⟩ := hk'
  simp only [cellsAre_cons, cellsAre_nil, and_true] at h4
  have lt0_b : w.heap.size < w1.heap.size := by omega
  have n0_b : ¬ w.heap.size = w1.heap.size := by omega
  have m0_b : ¬ w1.heap.size = w.heap.size := by omega
  have lt1_b : w.heap.size + 1 < w1.heap.size := by omega
  have n1_b : ¬ w.heap.size + 1 = w1.heap.size := by omega
  have m1_b : ¬ w1.heap.size = w.heap.size + 1 := by omega
  have lt2_b : w.heap.size + 1 + 1 < w1.heap.size := by omega
  have n2_b : ¬ w.heap.size + 1 + 1 = w1.heap.size := by omega
  have m2_b : ¬ w1.heap.size = w.heap.size + 1 + 1 := by omega
  have lt2p_b : w.heap.size + 2 < w1.heap.size := by omega
  have n2p_b : ¬ w.heap.size + 2 = w1.heap.size := by omega
  have m2p_b : ¬ w1.heap.size = w.heap.size + 2 := by omega
  have lt3_b : w.heap.size + 1 + 1 + 1 < w1.heap.size := by omega
  have n3_b : ¬ w.heap.size + 1 + 1 + 1 = w1.heap.size := by omega
  have m3_b : ¬ w1.heap.size = w.heap.size + 1 + 1 + 1 := by omega
  have lt3p_b : w.heap.size + 3 < w1.heap.size := by omega
  have n3p_b : ¬ w.heap.size + 3 = w1.heap.size := by omega
  have m3p_b : ¬ w1.heap.size = w.heap.size + 3 := by omega
  have h2b := h2
  go_wp2_with fail
  refine (apply_any _ _ _ _ _ _ _).mono ?_
  rintro e w3 ⟨rfl, hb⟩
  have hk_new : Keeps (w1.heap.size + 1) [(⟨w1.heap.size, 0, none⟩, .int .i64 x3), (⟨w1.heap.size, 1, none⟩, .int .i64 x4), (⟨w.heap.size, 0, none⟩, .int .i64 t), (⟨w.heap.size, 1, none⟩, .bool c), (⟨w.heap.size, 2, none⟩, .int .i64 s), (⟨w.heap.size, 3, none⟩, .int .i64 v), (⟨w.heap.size + 1, 0, none⟩, .int .i64 x0), (⟨w.heap.size + 1, 1, none⟩, .int .i64 x1), (⟨w.heap.size + 1, 2, none⟩, .int .i64 x2), (⟨w.heap.size + 1, 3, none⟩, .int .i64 x3), (⟨w.heap.size + 1, 4, none⟩, .int .i64 x4), (⟨w.heap.size + 2, 0, none⟩, .int .i64 0), (⟨w.heap.size + 2, 1, none⟩, .int .i64 0), (⟨w.heap.size + 2, 2, none⟩, .slice none 0 0), (⟨w.heap.size + 3, 0, none⟩, .int .i64 7), (⟨w.heap.size + 3, 1, none⟩, .int .i64 v), (⟨w.heap.size + 3, 2, none⟩, .slice none 0 0)] w w3 := by
    refine Keeps.below ⟨?_, by first | (simp; done) | (simp; omega) | omega, by first | (simp [List.forall_mem_cons]; done) | (simp [List.forall_mem_cons]; omega), by simp [cellsAre_cons, cellsAre_nil, go_sem, World.cell?_alloc_past, *]⟩ hb
    (repeat (first | with_reducible apply Below.drew | with_reducible refine Below.setCell ?_ (by first | exact Nat.le_refl _ | (simp; done) | (simp; omega) | omega) _ | with_reducible refine Below.alloc ?_ (by first | exact Nat.le_refl _ | (simp; done) | (simp; omega) | omega) _ | with_reducible exact Below.refl _ _ | with_reducible assumption))
  clear hb
  try clear hk
  have hk := hk_new
  clear hk_new
  clear h1 h2 h3 h4
  have hk' := hk
  obtain ⟨h1, h2, h3, h4⟩ := hk'
  simp only [cellsAre_cons, cellsAre_nil, and_true] at h4
  clear lt0_b lt1_b lt2_b lt2p_b lt3_b lt3p_b
  generalize w1.heap.size = b at *
  have lt0_d : w.heap.size < w3.heap.size := by omega
  have n0_d : ¬ w.heap.size = w3.heap.size := by omega
  have m0_d : ¬ w3.heap.size = w.heap.size := by omega
  have lt1_d : w.heap.size + 1 < w3.heap.size := by omega
  have n1_d : ¬ w.heap.size + 1 = w3.heap.size := by omega
  have m1_d : ¬ w3.heap.size = w.heap.size + 1 := by omega
  have lt2_d : w.heap.size + 1 + 1 < w3.heap.size := by omega
  have n2_d : ¬ w.heap.size + 1 + 1 = w3.heap.size := by omega
  have m2_d : ¬ w3.heap.size = w.heap.size + 1 + 1 := by omega
  have lt2p_d : w.heap.size + 2 < w3.heap.size := by omega
  have n2p_d : ¬ w.heap.size + 2 = w3.heap.size := by omega
  have m2p_d : ¬ w3.heap.size = w.heap.size + 2 := by omega
  have lt3_d : w.heap.size + 1 + 1 + 1 < w3.heap.size := by omega
  have n3_d : ¬ w.heap.size + 1 + 1 + 1 = w3.heap.size := by omega
  have m3_d : ¬ w3.heap.size = w.heap.size + 1 + 1 + 1 := by omega
  have lt3p_d : w.heap.size + 3 < w3.heap.size := by omega
  have n3p_d : ¬ w.heap.size + 3 = w3.heap.size := by omega
  have m3p_d : ¬ w3.heap.size = w.heap.size + 3 := by omega
  have hbd : b < w3.heap.size := by omega
  have nb : ¬ b = w3.heap.size := by omega
  have mb : ¬ w3.heap.size = b := by omega
  go_wp2_with fail
  refine (check_any _ _ _ _ _ _).mono ?_
  rintro e w5 ⟨rfl, hb⟩
  have hk_new : Keeps (w3.heap.size + 1) [(⟨w3.heap.size, 0, none⟩, .int .i64 (applyS ⟨t, c, s, v⟩ ⟨x3, x4⟩).tag), (⟨w3.heap.size, 1, none⟩, .bool (applyS ⟨t, c, s, v⟩ ⟨x3, x4⟩).closed), (⟨w3.heap.size, 2, none⟩, .int .i64 (applyS ⟨t, c, s, v⟩ ⟨x3, x4⟩).sum), (⟨w3.heap.size, 3, none⟩, .int .i64 (applyS ⟨t, c, s, v⟩ ⟨x3, x4⟩).ver), (⟨b, 0, none⟩, .int .i64 x3), (⟨b, 1, none⟩, .int .i64 x4), (⟨w.heap.size, 0, none⟩, .int .i64 t), (⟨w.heap.size, 1, none⟩, .bool c), (⟨w.heap.size, 2, none⟩, .int .i64 s), (⟨w.heap.size, 3, none⟩, .int .i64 v), (⟨w.heap.size + 1, 0, none⟩, .int .i64 x0), (⟨w.heap.size + 1, 1, none⟩, .int .i64 x1), (⟨w.heap.size + 1, 2, none⟩, .int .i64 x2), (⟨w.heap.size + 1, 3, none⟩, .int .i64 x3), (⟨w.heap.size + 1, 4, none⟩, .int .i64 x4), (⟨w.heap.size + 2, 0, none⟩, .int .i64 0), (⟨w.heap.size + 2, 1, none⟩, .int .i64 0), (⟨w.heap.size + 2, 2, none⟩, .slice none 0 0), (⟨w.heap.size + 3, 0, none⟩, .int .i64 7), (⟨w.heap.size + 3, 1, none⟩, .int .i64 v), (⟨w.heap.size + 3, 2, none⟩, .slice none 0 0)] w w5 := by
    refine Keeps.below ⟨?_, by first | (simp; done) | (simp; omega) | omega, by first | (simp [List.forall_mem_cons]; done) | (simp [List.forall_mem_cons]; omega), by simp [cellsAre_cons, cellsAre_nil, go_sem, World.cell?_alloc_past, *]⟩ hb
    (repeat (first | with_reducible apply Below.drew | with_reducible refine Below.setCell ?_ (by first | exact Nat.le_refl _ | (simp; done) | (simp; omega) | omega) _ | with_reducible refine Below.alloc ?_ (by first | exact Nat.le_refl _ | (simp; done) | (simp; omega) | omega) _ | with_reducible exact Below.refl _ _ | with_reducible assumption))
  clear hb
  try clear hk
  have hk := hk_new
  clear hk_new
  clear h1 h2 h3 h4
  have hk' := hk
  obtain ⟨h1, h2, h3, h4⟩ := hk'
  simp only [cellsAre_cons, cellsAre_nil, and_true] at h4
  clear lt0_d lt1_d lt2_d lt2p_d lt3_d lt3p_d
  generalize w3.heap.size = d at *
  go_wp2
  apply ret_of
  · simp only [results, Try.results24]
    go_simp
    with_reducible rfl
  refine ⟨rfl, ?_⟩
  exact ⟨rfl, by (repeat (first | with_reducible apply Below.drew | with_reducible refine Below.setCell ?_ (by first | exact Nat.le_refl _ | (simp; done) | (simp; omega) | omega) _ | with_reducible refine Below.alloc ?_ (by first | exact Nat.le_refl _ | (simp; done) | (simp; omega) | omega) _ | with_reducible exact Below.refl _ _ | with_reducible assumption))⟩

set_option maxHeartbeats 2000000 in
theorem decide_C0 (t s v x0 x1 x2 x3 x4 : Int) (c : Bool) (w : World) (hm : mayS ⟨t, c, s, v⟩ = true) (hx : (x3 == 4) = false) (ho : errOf (ordOk ⟨x0, x1, x2, x3, x4⟩) = 0) (hc1 : 0 ≤ x2) (hc2 : (x2 != v) = true) :
    Calls Try.prog 24 #[.agg #[.int .i64 t, .bool c, .int .i64 s, .int .i64 v], .agg #[.int .i64 x0, .int .i64 x1, .int .i64 x2, .int .i64 x3, .int .i64 x4]] w fun e w' =>
      e = .returned (.agg #[.int .i64 2, .int .i64 v, .slice none 0 0]) ∧ Below w.heap.size w w' := by
  go_enter Try.func24, Try.ntmps24
  go_wp2_with fail
  refine (may_any _ _ _ _ _).mono ?_
  rintro e w1 ⟨rfl, hb⟩
  have hk_new : Keeps (w.heap.size + 4) [(⟨w.heap.size, 0, none⟩, .int .i64 t), (⟨w.heap.size, 1, none⟩, .bool c), (⟨w.heap.size, 2, none⟩, .int .i64 s), (⟨w.heap.size, 3, none⟩, .int .i64 v), (⟨w.heap.size + 1, 0, none⟩, .int .i64 x0), (⟨w.heap.size + 1, 1, none⟩, .int .i64 x1), (⟨w.heap.size + 1, 2, none⟩, .int .i64 x2), (⟨w.heap.size + 1, 3, none⟩, .int .i64 x3), (⟨w.heap.size + 1, 4, none⟩, .int .i64 x4), (⟨w.heap.size + 2, 0, none⟩, .int .i64 0), (⟨w.heap.size + 2, 1, none⟩, .int .i64 0), (⟨w.heap.size + 2, 2, none⟩, .slice none 0 0), (⟨w.heap.size + 3, 0, none⟩, .int .i64 7), (⟨w.heap.size + 3, 1, none⟩, .int .i64 0), (⟨w.heap.size + 3, 2, none⟩, .slice none 0 0)] w w1 := by
    refine Keeps.below ⟨?_, by first | (simp; done) | (simp; omega) | omega, by first | (simp [List.forall_mem_cons]; done) | (simp [List.forall_mem_cons]; omega), by simp [cellsAre_cons, cellsAre_nil, go_sem, World.cell?_alloc_past, *]⟩ hb
    (repeat (first | with_reducible apply Below.drew | with_reducible refine Below.setCell ?_ (by first | exact Nat.le_refl _ | (simp; done) | (simp; omega) | omega) _ | with_reducible refine Below.alloc ?_ (by first | exact Nat.le_refl _ | (simp; done) | (simp; omega) | omega) _ | with_reducible exact Below.refl _ _ | with_reducible assumption))
  clear hb
  try clear hk
  have hk := hk_new
  clear hk_new
  have hk' := hk
  obtain ⟨h1, h2, h3, h4⟩ := hk'
  simp only [cellsAre_cons, cellsAre_nil, and_true] at h4
  have lt0_b : w.heap.size < w1.heap.size := by omega
  have n0_b : ¬ w.heap.size = w1.heap.size := by omega
  have m0_b : ¬ w1.heap.size = w.heap.size := by omega
  have lt1_b : w.heap.size + 1 < w1.heap.size := by omega
  have n1_b : ¬ w.heap.size + 1 = w1.heap.size := by omega
  have m1_b : ¬ w1.heap.size = w.heap.size + 1 := by omega
  have lt2_b : w.heap.size + 1 + 1 < w1.heap.size := by omega
  have n2_b : ¬ w.heap.size + 1 + 1 = w1.heap.size := by omega
  have m2_b : ¬ w1.heap.size = w.heap.size + 1 + 1 := by omega
  have lt2p_b : w.heap.size + 2 < w1.heap.size := by omega
  have n2p_b : ¬ w.heap.size + 2 = w1.heap.size := by omega
  have m2p_b : ¬ w1.heap.size = w.heap.size + 2 := by omega
  have lt3_b : w.heap.size + 1 + 1 + 1 < w1.heap.size := by omega
  have n3_b : ¬ w.heap.size + 1 + 1 + 1 = w1.heap.size := by omega
  have m3_b : ¬ w1.heap.size = w.heap.size + 1 + 1 + 1 := by omega
  have lt3p_b : w.heap.size + 3 < w1.heap.size := by omega
  have n3p_b : ¬ w.heap.size + 3 = w1.heap.size := by omega
  have m3p_b : ¬ w1.heap.size = w.heap.size + 3 := by omega
  have h2b := h2
  go_wp2_with fail
  refine (apply_any _ _ _ _ _ _ _).mono ?_
  rintro e w3 ⟨rfl, hb⟩
  have hk_new : Keeps (w1.heap.size + 1) [(⟨w1.heap.size, 0, none⟩, .int .i64 x3), (⟨w1.heap.size, 1, none⟩, .int .i64 x4), (⟨w.heap.size, 0, none⟩, .int .i64 t), (⟨w.heap.size, 1, none⟩, .bool c), (⟨w.heap.size, 2, none⟩, .int .i64 s), (⟨w.heap.size, 3, none⟩, .int .i64 v), (⟨w.heap.size + 1, 0, none⟩, .int .i64 x0), (⟨w.heap.size + 1, 1, none⟩, .int .i64 x1), (⟨w.heap.size + 1, 2, none⟩, .int .i64 x2), (⟨w.heap.size + 1, 3, none⟩, .int .i64 x3), (⟨w.heap.size + 1, 4, none⟩, .int .i64 x4), (⟨w.heap.size + 2, 0, none⟩, .int .i64 0), (⟨w.heap.size + 2, 1, none⟩, .int .i64 0), (⟨w.heap.size + 2, 2, none⟩, .slice none 0 0), (⟨w.heap.size + 3, 0, none⟩, .int .i64 7), (⟨w.heap.size + 3, 1, none⟩, .int .i64 v), (⟨w.heap.size + 3, 2, none⟩, .slice none 0 0)] w w3 := by
    refine Keeps.below ⟨?_, by first | (simp; done) | (simp; omega) | omega, by first | (simp [List.forall_mem_cons]; done) | (simp [List.forall_mem_cons]; omega), by simp [cellsAre_cons, cellsAre_nil, go_sem, World.cell?_alloc_past, *]⟩ hb
    (repeat (first | with_reducible apply Below.drew | with_reducible refine Below.setCell ?_ (by first | exact Nat.le_refl _ | (simp; done) | (simp; omega) | omega) _ | with_reducible refine Below.alloc ?_ (by first | exact Nat.le_refl _ | (simp; done) | (simp; omega) | omega) _ | with_reducible exact Below.refl _ _ | with_reducible assumption))
  clear hb
  try clear hk
  have hk := hk_new
  clear hk_new
  clear h1 h2 h3 h4
  have hk' := hk
  obtain ⟨h1, h2, h3, h4⟩ := hk'
  simp only [cellsAre_cons, cellsAre_nil, and_true] at h4
  clear lt0_b lt1_b lt2_b lt2p_b lt3_b lt3p_b
  generalize w1.heap.size = b at *
  have lt0_d : w.heap.size < w3.heap.size := by omega
  have n0_d : ¬ w.heap.size = w3.heap.size := by omega
  have m0_d : ¬ w3.heap.size = w.heap.size := by omega
  have lt1_d : w.heap.size + 1 < w3.heap.size := by omega
  have n1_d : ¬ w.heap.size + 1 = w3.heap.size := by omega
  have m1_d : ¬ w3.heap.size = w.heap.size + 1 := by omega
  have lt2_d : w.heap.size + 1 + 1 < w3.heap.size := by omega
  have n2_d : ¬ w.heap.size + 1 + 1 = w3.heap.size := by omega
  have m2_d : ¬ w3.heap.size = w.heap.size + 1 + 1 := by omega
  have lt2p_d : w.heap.size + 2 < w3.heap.size := by omega
  have n2p_d : ¬ w.heap.size + 2 = w3.heap.size := by omega
  have m2p_d : ¬ w3.heap.size = w.heap.size + 2 := by omega
  have lt3_d : w.heap.size + 1 + 1 + 1 < w3.heap.size := by omega
  have n3_d : ¬ w.heap.size + 1 + 1 + 1 = w3.heap.size := by omega
  have m3_d : ¬ w3.heap.size = w.heap.size + 1 + 1 + 1 := by omega
  have lt3p_d : w.heap.size + 3 < w3.heap.size := by omega
  have n3p_d : ¬ w.heap.size + 3 = w3.heap.size := by omega
  have m3p_d : ¬ w3.heap.size = w.heap.size + 3 := by omega
  have hbd : b < w3.heap.size := by omega
  have nb : ¬ b = w3.heap.size := by omega
  have mb : ¬ w3.heap.size = b := by omega
  go_wp2_with fail
  refine (check_any _ _ _ _ _ _).mono ?_
  rintro e w5 ⟨rfl, hb⟩
  have hk_new : Keeps (w3.heap.size + 1) [(⟨w3.heap.size, 0, none⟩, .int .i64 (applyS ⟨t, c, s, v⟩ ⟨x3, x4⟩).tag), (⟨w3.heap.size, 1, none⟩, .bool (applyS ⟨t, c, s, v⟩ ⟨x3, x4⟩).closed), (⟨w3.heap.size, 2, none⟩, .int .i64 (applyS ⟨t, c, s, v⟩ ⟨x3, x4⟩).sum), (⟨w3.heap.size, 3, none⟩, .int .i64 (applyS ⟨t, c, s, v⟩ ⟨x3, x4⟩).ver), (⟨b, 0, none⟩, .int .i64 x3), (⟨b, 1, none⟩, .int .i64 x4), (⟨w.heap.size, 0, none⟩, .int .i64 t), (⟨w.heap.size, 1, none⟩, .bool c), (⟨w.heap.size, 2, none⟩, .int .i64 s), (⟨w.heap.size, 3, none⟩, .int .i64 v), (⟨w.heap.size + 1, 0, none⟩, .int .i64 x0), (⟨w.heap.size + 1, 1, none⟩, .int .i64 x1), (⟨w.heap.size + 1, 2, none⟩, .int .i64 x2), (⟨w.heap.size + 1, 3, none⟩, .int .i64 x3), (⟨w.heap.size + 1, 4, none⟩, .int .i64 x4), (⟨w.heap.size + 2, 0, none⟩, .int .i64 0), (⟨w.heap.size + 2, 1, none⟩, .int .i64 0), (⟨w.heap.size + 2, 2, none⟩, .slice none 0 0), (⟨w.heap.size + 3, 0, none⟩, .int .i64 7), (⟨w.heap.size + 3, 1, none⟩, .int .i64 v), (⟨w.heap.size + 3, 2, none⟩, .slice none 0 0)] w w5 := by
    refine Keeps.below ⟨?_, by first | (simp; done) | (simp; omega) | omega, by first | (simp [List.forall_mem_cons]; done) | (simp [List.forall_mem_cons]; omega), by simp [cellsAre_cons, cellsAre_nil, go_sem, World.cell?_alloc_past, *]⟩ hb
    (repeat (first | with_reducible apply Below.drew | with_reducible refine Below.setCell ?_ (by first | exact Nat.le_refl _ | (simp; done) | (simp; omega) | omega) _ | with_reducible refine Below.alloc ?_ (by first | exact Nat.le_refl _ | (simp; done) | (simp; omega) | omega) _ | with_reducible exact Below.refl _ _ | with_reducible assumption))
  clear hb
  try clear hk
  have hk := hk_new
  clear hk_new
  clear h1 h2 h3 h4
  have hk' := hk
  obtain ⟨h1, h2, h3, h4⟩ := hk'
  simp only [cellsAre_cons, cellsAre_nil, and_true] at h4
  clear lt0_d lt1_d lt2_d lt2p_d lt3_d lt3p_d
  generalize w3.heap.size = d at *
  go_wp2
  apply ret_of
  · simp only [results, Try.results24]
    go_simp
    with_reducible rfl
  refine ⟨rfl, ?_⟩
  exact ⟨rfl, by (repeat (first | with_reducible apply Below.drew | with_reducible refine Below.setCell ?_ (by first | exact Nat.le_refl _ | (simp; done) | (simp; omega) | omega) _ | with_reducible refine Below.alloc ?_ (by first | exact Nat.le_refl _ | (simp; done) | (simp; omega) | omega) _ | with_reducible exact Below.refl _ _ | with_reducible assumption))⟩

set_option maxHeartbeats 2000000 in
theorem decide_D0a (t s v x0 x1 x2 x3 x4 : Int) (c : Bool) (w : World) (hm : mayS ⟨t, c, s, v⟩ = true) (hx : (x3 == 4) = false) (ho : errOf (ordOk ⟨x0, x1, x2, x3, x4⟩) = 0) (hc1 : x2 < 0) (hp : applyS ⟨t, c, s, v⟩ ⟨x3, x4⟩ = ⟨t, c, s, v⟩) :
    Calls Try.prog 24 #[.agg #[.int .i64 t, .bool c, .int .i64 s, .int .i64 v], .agg #[.int .i64 x0, .int .i64 x1, .int .i64 x2, .int .i64 x3, .int .i64 x4]] w fun e w' =>
      e = .returned (.agg #[.int .i64 3, .int .i64 v, .slice none 0 0]) ∧ Below w.heap.size w w' := by
  have ha := apply_any t s v x3 x4 c
  rw [hp] at ha
  dsimp only at ha
  have HA := Lib.hid ha
  clear ha hp
  go_enter Try.func24, Try.ntmps24
  go_wp2_with fail
  refine (may_any _ _ _ _ _).mono ?_
  rintro e w1 ⟨rfl, hb⟩
  have hk_new : Keeps (w.heap.size + 4) [(⟨w.heap.size, 0, none⟩, .int .i64 t), (⟨w.heap.size, 1, none⟩, .bool c), (⟨w.heap.size, 2, none⟩, .int .i64 s), (⟨w.heap.size, 3, none⟩, .int .i64 v), (⟨w.heap.size + 1, 0, none⟩, .int .i64 x0), (⟨w.heap.size + 1, 1, none⟩, .int .i64 x1), (⟨w.heap.size + 1, 2, none⟩, .int .i64 x2), (⟨w.heap.size + 1, 3, none⟩, .int .i64 x3), (⟨w.heap.size + 1, 4, none⟩, .int .i64 x4), (⟨w.heap.size + 2, 0, none⟩, .int .i64 0), (⟨w.heap.size + 2, 1, none⟩, .int .i64 0), (⟨w.heap.size + 2, 2, none⟩, .slice none 0 0), (⟨w.heap.size + 3, 0, none⟩, .int .i64 7), (⟨w.heap.size + 3, 1, none⟩, .int .i64 0), (⟨w.heap.size + 3, 2, none⟩, .slice none 0 0)] w w1 := by
    refine Keeps.below ⟨?_, by first | (simp; done) | (simp; omega) | omega, by first | (simp [List.forall_mem_cons]; done) | (simp [List.forall_mem_cons]; omega), by simp [cellsAre_cons, cellsAre_nil, go_sem, World.cell?_alloc_past, *]⟩ hb
    (repeat (first | with_reducible apply Below.drew | with_reducible refine Below.setCell ?_ (by first | exact Nat.le_refl _ | (simp; done) | (simp; omega) | omega) _ | with_reducible refine Below.alloc ?_ (by first | exact Nat.le_refl _ | (simp; done) | (simp; omega) | omega) _ | with_reducible exact Below.refl _ _ | with_reducible assumption))
  clear hb
  try clear hk
  have hk := hk_new
  clear hk_new
  have hk' := hk
  obtain ⟨h1, h2, h3, h4⟩ := hk'
  simp only [cellsAre_cons, cellsAre_nil, and_true] at h4
  have lt0_b : w.heap.size < w1.heap.size := by omega
  have n0_b : ¬ w.heap.size = w1.heap.size := by omega
  have m0_b : ¬ w1.heap.size = w.heap.size := by omega
  have lt1_b : w.heap.size + 1 < w1.heap.size := by omega
  have n1_b : ¬ w.heap.size + 1 = w1.heap.size := by omega
  have m1_b : ¬ w1.heap.size = w.heap.size + 1 := by omega
  have lt2_b : w.heap.size + 1 + 1 < w1.heap.size := by omega
  have n2_b : ¬ w.heap.size + 1 + 1 = w1.heap.size := by omega
  have m2_b : ¬ w1.heap.size = w.heap.size + 1 + 1 := by omega
  have lt2p_b : w.heap.size + 2 < w1.heap.size := by omega
  have n2p_b : ¬ w.heap.size + 2 = w1.heap.size := by omega
  have m2p_b : ¬ w1.heap.size = w.heap.size + 2 := by omega
  have lt3_b : w.heap.size + 1 + 1 + 1 < w1.heap.size := by omega
  have n3_b : ¬ w.heap.size + 1 + 1 + 1 = w1.heap.size := by omega
  have m3_b : ¬ w1.heap.size = w.heap.size + 1 + 1 + 1 := by omega
  have lt3p_b : w.heap.size + 3 < w1.heap.size := by omega
  have n3p_b : ¬ w.heap.size + 3 = w1.heap.size := by omega
  have m3p_b : ¬ w1.heap.size = w.heap.size + 3 := by omega
  have h2b := h2
  go_wp2_with fail
  refine (HA.out _).mono ?_
  rintro e w3 ⟨rfl, hb⟩
  have hk_new : Keeps (w1.heap.size + 1) [(⟨w1.heap.size, 0, none⟩, .int .i64 x3), (⟨w1.heap.size, 1, none⟩, .int .i64 x4), (⟨w.heap.size, 0, none⟩, .int .i64 t), (⟨w.heap.size, 1, none⟩, .bool c), (⟨w.heap.size, 2, none⟩, .int .i64 s), (⟨w.heap.size, 3, none⟩, .int .i64 v), (⟨w.heap.size + 1, 0, none⟩, .int .i64 x0), (⟨w.heap.size + 1, 1, none⟩, .int .i64 x1), (⟨w.heap.size + 1, 2, none⟩, .int .i64 x2), (⟨w.heap.size + 1, 3, none⟩, .int .i64 x3), (⟨w.heap.size + 1, 4, none⟩, .int .i64 x4), (⟨w.heap.size + 2, 0, none⟩, .int .i64 0), (⟨w.heap.size + 2, 1, none⟩, .int .i64 0), (⟨w.heap.size + 2, 2, none⟩, .slice none 0 0), (⟨w.heap.size + 3, 0, none⟩, .int .i64 7), (⟨w.heap.size + 3, 1, none⟩, .int .i64 v), (⟨w.heap.size + 3, 2, none⟩, .slice none 0 0)] w w3 := by
    refine Keeps.below ⟨?_, by first | (simp; done) | (simp; omega) | omega, by first | (simp [List.forall_mem_cons]; done) | (simp [List.forall_mem_cons]; omega), by simp [cellsAre_cons, cellsAre_nil, go_sem, World.cell?_alloc_past, *]⟩ hb
    (repeat (first | with_reducible apply Below.drew | with_reducible refine Below.setCell ?_ (by first | exact Nat.le_refl _ | (simp; done) | (simp; omega) | omega) _ | with_reducible refine Below.alloc ?_ (by first | exact Nat.le_refl _ | (simp; done) | (simp; omega) | omega) _ | with_reducible exact Below.refl _ _ | with_reducible assumption))
  clear hb
  try clear hk
  have hk := hk_new
  clear hk_new
  clear h1 h2 h3 h4
  have hk' := hk
  obtain ⟨h1, h2, h3, h4⟩ := hk'
  simp only [cellsAre_cons, cellsAre_nil, and_true] at h4
  clear lt0_b lt1_b lt2_b lt2p_b lt3_b lt3p_b
  generalize w1.heap.size = b at *
  have lt0_d : w.heap.size < w3.heap.size := by omega
  have n0_d : ¬ w.heap.size = w3.heap.size := by omega
  have m0_d : ¬ w3.heap.size = w.heap.size := by omega
  have lt1_d : w.heap.size + 1 < w3.heap.size := by omega
  have n1_d : ¬ w.heap.size + 1 = w3.heap.size := by omega
  have m1_d : ¬ w3.heap.size = w.heap.size + 1 := by omega
  have lt2_d : w.heap.size + 1 + 1 < w3.heap.size := by omega
  have n2_d : ¬ w.heap.size + 1 + 1 = w3.heap.size := by omega
  have m2_d : ¬ w3.heap.size = w.heap.size + 1 + 1 := by omega
  have lt2p_d : w.heap.size + 2 < w3.heap.size := by omega
  have n2p_d : ¬ w.heap.size + 2 = w3.heap.size := by omega
  have m2p_d : ¬ w3.heap.size = w.heap.size + 2 := by omega
  have lt3_d : w.heap.size + 1 + 1 + 1 < w3.heap.size := by omega
  have n3_d : ¬ w.heap.size + 1 + 1 + 1 = w3.heap.size := by omega
  have m3_d : ¬ w3.heap.size = w.heap.size + 1 + 1 + 1 := by omega
  have lt3p_d : w.heap.size + 3 < w3.heap.size := by omega
  have n3p_d : ¬ w.heap.size + 3 = w3.heap.size := by omega
  have m3p_d : ¬ w3.heap.size = w.heap.size + 3 := by omega
  have hbd : b < w3.heap.size := by omega
  have nb : ¬ b = w3.heap.size := by omega
  have mb : ¬ w3.heap.size = b := by omega
  go_wp2_with fail
  refine (check_any _ _ _ _ _ _).mono ?_
  rintro e w5 ⟨rfl, hb⟩
  have hk_new : Keeps (w3.heap.size + 1) [(⟨w3.heap.size, 0, none⟩, .int .i64 t), (⟨w3.heap.size, 1, none⟩, .bool c), (⟨w3.heap.size, 2, none⟩, .int .i64 s), (⟨w3.heap.size, 3, none⟩, .int .i64 v), (⟨b, 0, none⟩, .int .i64 x3), (⟨b, 1, none⟩, .int .i64 x4), (⟨w.heap.size, 0, none⟩, .int .i64 t), (⟨w.heap.size, 1, none⟩, .bool c), (⟨w.heap.size, 2, none⟩, .int .i64 s), (⟨w.heap.size, 3, none⟩, .int .i64 v), (⟨w.heap.size + 1, 0, none⟩, .int .i64 x0), (⟨w.heap.size + 1, 1, none⟩, .int .i64 x1), (⟨w.heap.size + 1, 2, none⟩, .int .i64 x2), (⟨w.heap.size + 1, 3, none⟩, .int .i64 x3), (⟨w.heap.size + 1, 4, none⟩, .int .i64 x4), (⟨w.heap.size + 2, 0, none⟩, .int .i64 0), (⟨w.heap.size + 2, 1, none⟩, .int .i64 0), (⟨w.heap.size + 2, 2, none⟩, .slice none 0 0), (⟨w.heap.size + 3, 0, none⟩, .int .i64 7), (⟨w.heap.size + 3, 1, none⟩, .int .i64 v), (⟨w.heap.size + 3, 2, none⟩, .slice none 0 0)] w w5 := by
    refine Keeps.below ⟨?_, by first | (simp; done) | (simp; omega) | omega, by first | (simp [List.forall_mem_cons]; done) | (simp [List.forall_mem_cons]; omega), by simp [cellsAre_cons, cellsAre_nil, go_sem, World.cell?_alloc_past, *]⟩ hb
    (repeat (first | with_reducible apply Below.drew | with_reducible refine Below.setCell ?_ (by first | exact Nat.le_refl _ | (simp; done) | (simp; omega) | omega) _ | with_reducible refine Below.alloc ?_ (by first | exact Nat.le_refl _ | (simp; done) | (simp; omega) | omega) _ | with_reducible exact Below.refl _ _ | with_reducible assumption))
  clear hb
  try clear hk
  have hk := hk_new
  clear hk_new
  clear h1 h2 h3 h4
  have hk' := hk
  obtain ⟨h1, h2, h3, h4⟩ := hk'
  simp only [cellsAre_cons, cellsAre_nil, and_true] at h4
  clear lt0_d lt1_d lt2_d lt2p_d lt3_d lt3p_d
  generalize w3.heap.size = d at *
  go_wp2
  apply ret_of
  · simp only [results, Try.results24]
    go_simp
    with_reducible rfl
  refine ⟨rfl, ?_⟩
  exact ⟨rfl, by (repeat (first | with_reducible apply Below.drew | with_reducible refine Below.setCell ?_ (by first | exact Nat.le_refl _ | (simp; done) | (simp; omega) | omega) _ | with_reducible refine Below.alloc ?_ (by first | exact Nat.le_refl _ | (simp; done) | (simp; omega) | omega) _ | with_reducible exact Below.refl _ _ | with_reducible assumption))⟩

set_option maxHeartbeats 2000000 in
theorem decide_E0a (t s v x0 x1 x2 x3 x4 : Int) (c : Bool) (w : World) (hm : mayS ⟨t, c, s, v⟩ = true) (hx : (x3 == 4) = false) (ho : errOf (ordOk ⟨x0, x1, x2, x3, x4⟩) = 0) (hc1 : x2 < 0) (pt ps : Int) (pc : Bool) (hp : applyS ⟨t, c, s, v⟩ ⟨x3, x4⟩ = ⟨pt, pc, ps, v + 1⟩) :
    Calls Try.prog 24 #[.agg #[.int .i64 t, .bool c, .int .i64 s, .int .i64 v], .agg #[.int .i64 x0, .int .i64 x1, .int .i64 x2, .int .i64 x3, .int .i64 x4]] w fun e w' =>
      OutNew w w' (v + 1) x3 x4 e := by
  have ha := apply_any t s v x3 x4 c
  rw [hp] at ha
  dsimp only at ha
  have HA := Lib.hid ha
  clear ha hp
  go_enter Try.func24, Try.ntmps24
  go_wp2_with fail
  refine (may_any _ _ _ _ _).mono ?_
  rintro e w1 ⟨rfl, hb⟩
  have hk_new : Keeps (w.heap.size + 4) [(⟨w.heap.size, 0, none⟩, .int .i64 t), (⟨w.heap.size, 1, none⟩, .bool c), (⟨w.heap.size, 2, none⟩, .int .i64 s), (⟨w.heap.size, 3, none⟩, .int .i64 v), (⟨w.heap.size + 1, 0, none⟩, .int .i64 x0), (⟨w.heap.size + 1, 1, none⟩, .int .i64 x1), (⟨w.heap.size + 1, 2, none⟩, .int .i64 x2), (⟨w.heap.size + 1, 3, none⟩, .int .i64 x3), (⟨w.heap.size + 1, 4, none⟩, .int .i64 x4), (⟨w.heap.size + 2, 0, none⟩, .int .i64 0), (⟨w.heap.size + 2, 1, none⟩, .int .i64 0), (⟨w.heap.size + 2, 2, none⟩, .slice none 0 0), (⟨w.heap.size + 3, 0, none⟩, .int .i64 7), (⟨w.heap.size + 3, 1, none⟩, .int .i64 0), (⟨w.heap.size + 3, 2, none⟩, .slice none 0 0)] w w1 := by
    refine Keeps.below ⟨?_, by first | (simp; done) | (simp; omega) | omega, by first | (simp [List.forall_mem_cons]; done) | (simp [List.forall_mem_cons]; omega), by simp [cellsAre_cons, cellsAre_nil, go_sem, World.cell?_alloc_past, *]⟩ hb
    (repeat (first | with_reducible apply Below.drew | with_reducible refine Below.setCell ?_ (by first | exact Nat.le_refl _ | (simp; done) | (simp; omega) | omega) _ | with_reducible refine Below.alloc ?_ (by first | exact Nat.le_refl _ | (simp; done) | (simp; omega) | omega) _ | with_reducible exact Below.refl _ _ | with_reducible assumption))
  clear hb
  try clear hk
  have hk := hk_new
  clear hk_new
  have hk' := hk
  obtain ⟨h1, h2, h3, h4⟩ := hk'
  simp only [cellsAre_cons, cellsAre_nil, and_true] at h4
  have lt0_b : w.heap.size < w1.heap.size := by omega
  have n0_b : ¬ w.heap.size = w1.heap.size := by omega
  have m0_b : ¬ w1.heap.size = w.heap.size := by omega
  have lt1_b : w.heap.size + 1 < w1.heap.size := by omega
  have n1_b : ¬ w.heap.size + 1 = w1.heap.size := by omega
  have m1_b : ¬ w1.heap.size = w.heap.size + 1 := by omega
  have lt2_b : w.heap.size + 1 + 1 < w1.heap.size := by omega
  have n2_b : ¬ w.heap.size + 1 + 1 = w1.heap.size := by omega
  have m2_b : ¬ w1.heap.size = w.heap.size + 1 + 1 := by omega
  have lt2p_b : w.heap.size + 2 < w1.heap.size := by omega
  have n2p_b : ¬ w.heap.size + 2 = w1.heap.size := by omega
  have m2p_b : ¬ w1.heap.size = w.heap.size + 2 := by omega
  have lt3_b : w.heap.size + 1 + 1 + 1 < w1.heap.size := by omega
  have n3_b : ¬ w.heap.size + 1 + 1 + 1 = w1.heap.size := by omega
  have m3_b : ¬ w1.heap.size = w.heap.size + 1 + 1 + 1 := by omega
  have lt3p_b : w.heap.size + 3 < w1.heap.size := by omega
  have n3p_b : ¬ w.heap.size + 3 = w1.heap.size := by omega
  have m3p_b : ¬ w1.heap.size = w.heap.size + 3 := by omega
  have h2b := h2
  go_wp2_with fail
  refine (HA.out _).mono ?_
  rintro e w3 ⟨rfl, hb⟩
  have hk_new : Keeps (w1.heap.size + 1) [(⟨w1.heap.size, 0, none⟩, .int .i64 x3), (⟨w1.heap.size, 1, none⟩, .int .i64 x4), (⟨w.heap.size, 0, none⟩, .int .i64 t), (⟨w.heap.size, 1, none⟩, .bool c), (⟨w.heap.size, 2, none⟩, .int .i64 s), (⟨w.heap.size, 3, none⟩, .int .i64 v), (⟨w.heap.size + 1, 0, none⟩, .int .i64 x0), (⟨w.heap.size + 1, 1, none⟩, .int .i64 x1), (⟨w.heap.size + 1, 2, none⟩, .int .i64 x2), (⟨w.heap.size + 1, 3, none⟩, .int .i64 x3), (⟨w.heap.size + 1, 4, none⟩, .int .i64 x4), (⟨w.heap.size + 2, 0, none⟩, .int .i64 0), (⟨w.heap.size + 2, 1, none⟩, .int .i64 0), (⟨w.heap.size + 2, 2, none⟩, .slice none 0 0), (⟨w.heap.size + 3, 0, none⟩, .int .i64 7), (⟨w.heap.size + 3, 1, none⟩, .int .i64 v), (⟨w.heap.size + 3, 2, none⟩, .slice none 0 0)] w w3 := by
    refine Keeps.below ⟨?_, by first | (simp; done) | (simp; omega) | omega, by first | (simp [List.forall_mem_cons]; done) | (simp [List.forall_mem_cons]; omega), by simp [cellsAre_cons, cellsAre_nil, go_sem, World.cell?_alloc_past, *]⟩ hb
    (repeat (first | with_reducible apply Below.drew | with_reducible refine Below.setCell ?_ (by first | exact Nat.le_refl _ | (simp; done) | (simp; omega) | omega) _ | with_reducible refine Below.alloc ?_ (by first | exact Nat.le_refl _ | (simp; done) | (simp; omega) | omega) _ | with_reducible exact Below.refl _ _ | with_reducible assumption))
  clear hb
  try clear hk
  have hk := hk_new
  clear hk_new
  clear h1 h2 h3 h4
  have hk' := hk
  obtain ⟨h1, h2, h3, h4⟩ := hk'
  simp only [cellsAre_cons, cellsAre_nil, and_true] at h4
  clear lt0_b lt1_b lt2_b lt2p_b lt3_b lt3p_b
  generalize w1.heap.size = b at *
  have lt0_d : w.heap.size < w3.heap.size := by omega
  have n0_d : ¬ w.heap.size = w3.heap.size := by omega
  have m0_d : ¬ w3.heap.size = w.heap.size := by omega
  have lt1_d : w.heap.size + 1 < w3.heap.size := by omega
  have n1_d : ¬ w.heap.size + 1 = w3.heap.size := by omega
  have m1_d : ¬ w3.heap.size = w.heap.size + 1 := by omega
  have lt2_d : w.heap.size + 1 + 1 < w3.heap.size := by omega
  have n2_d : ¬ w.heap.size + 1 + 1 = w3.heap.size := by omega
  have m2_d : ¬ w3.heap.size = w.heap.size + 1 + 1 := by omega
  have lt2p_d : w.heap.size + 2 < w3.heap.size := by omega
  have n2p_d : ¬ w.heap.size + 2 = w3.heap.size := by omega
  have m2p_d : ¬ w3.heap.size = w.heap.size + 2 := by omega
  have lt3_d : w.heap.size + 1 + 1 + 1 < w3.heap.size := by omega
  have n3_d : ¬ w.heap.size + 1 + 1 + 1 = w3.heap.size := by omega
  have m3_d : ¬ w3.heap.size = w.heap.size + 1 + 1 + 1 := by omega
  have lt3p_d : w.heap.size + 3 < w3.heap.size := by omega
  have n3p_d : ¬ w.heap.size + 3 = w3.heap.size := by omega
  have m3p_d : ¬ w3.heap.size = w.heap.size + 3 := by omega
  have hbd : b < w3.heap.size := by omega
  have nb : ¬ b = w3.heap.size := by omega
  have mb : ¬ w3.heap.size = b := by omega
  go_wp2_with fail
  refine (check_any _ _ _ _ _ _).mono ?_
  rintro e w5 ⟨rfl, hb⟩
  have hk_new : Keeps (w3.heap.size + 1) [(⟨w3.heap.size, 0, none⟩, .int .i64 pt), (⟨w3.heap.size, 1, none⟩, .bool pc), (⟨w3.heap.size, 2, none⟩, .int .i64 ps), (⟨w3.heap.size, 3, none⟩, .int .i64 (v + 1)), (⟨b, 0, none⟩, .int .i64 x3), (⟨b, 1, none⟩, .int .i64 x4), (⟨w.heap.size, 0, none⟩, .int .i64 t), (⟨w.heap.size, 1, none⟩, .bool c), (⟨w.heap.size, 2, none⟩, .int .i64 s), (⟨w.heap.size, 3, none⟩, .int .i64 v), (⟨w.heap.size + 1, 0, none⟩, .int .i64 x0), (⟨w.heap.size + 1, 1, none⟩, .int .i64 x1), (⟨w.heap.size + 1, 2, none⟩, .int .i64 x2), (⟨w.heap.size + 1, 3, none⟩, .int .i64 x3), (⟨w.heap.size + 1, 4, none⟩, .int .i64 x4), (⟨w.heap.size + 2, 0, none⟩, .int .i64 0), (⟨w.heap.size + 2, 1, none⟩, .int .i64 0), (⟨w.heap.size + 2, 2, none⟩, .slice none 0 0), (⟨w.heap.size + 3, 0, none⟩, .int .i64 7), (⟨w.heap.size + 3, 1, none⟩, .int .i64 v), (⟨w.heap.size + 3, 2, none⟩, .slice none 0 0)] w w5 := by
    refine Keeps.below ⟨?_, by first | (simp; done) | (simp; omega) | omega, by first | (simp [List.forall_mem_cons]; done) | (simp [List.forall_mem_cons]; omega), by simp [cellsAre_cons, cellsAre_nil, go_sem, World.cell?_alloc_past, *]⟩ hb
    (repeat (first | with_reducible apply Below.drew | with_reducible refine Below.setCell ?_ (by first | exact Nat.le_refl _ | (simp; done) | (simp; omega) | omega) _ | with_reducible refine Below.alloc ?_ (by first | exact Nat.le_refl _ | (simp; done) | (simp; omega) | omega) _ | with_reducible exact Below.refl _ _ | with_reducible assumption))
  clear hb
  try clear hk
  have hk := hk_new
  clear hk_new
  clear h1 h2 h3 h4
  have hk' := hk
  obtain ⟨h1, h2, h3, h4⟩ := hk'
  simp only [cellsAre_cons, cellsAre_nil, and_true] at h4
  clear lt0_d lt1_d lt2_d lt2p_d lt3_d lt3p_d
  generalize w3.heap.size = d at *
  have lt0_f : w.heap.size < w5.heap.size := by omega
  have n0_f : ¬ w.heap.size = w5.heap.size := by omega
  have m0_f : ¬ w5.heap.size = w.heap.size := by omega
  have lt1_f : w.heap.size + 1 < w5.heap.size := by omega
  have n1_f : ¬ w.heap.size + 1 = w5.heap.size := by omega
  have m1_f : ¬ w5.heap.size = w.heap.size + 1 := by omega
  have lt2_f : w.heap.size + 1 + 1 < w5.heap.size := by omega
  have n2_f : ¬ w.heap.size + 1 + 1 = w5.heap.size := by omega
  have m2_f : ¬ w5.heap.size = w.heap.size + 1 + 1 := by omega
  have lt2p_f : w.heap.size + 2 < w5.heap.size := by omega
  have n2p_f : ¬ w.heap.size + 2 = w5.heap.size := by omega
  have m2p_f : ¬ w5.heap.size = w.heap.size + 2 := by omega
  have lt3_f : w.heap.size + 1 + 1 + 1 < w5.heap.size := by omega
  have n3_f : ¬ w.heap.size + 1 + 1 + 1 = w5.heap.size := by omega
  have m3_f : ¬ w5.heap.size = w.heap.size + 1 + 1 + 1 := by omega
  have lt3p_f : w.heap.size + 3 < w5.heap.size := by omega
  have n3p_f : ¬ w.heap.size + 3 = w5.heap.size := by omega
  have m3p_f : ¬ w5.heap.size = w.heap.size + 3 := by omega
  have ltb : b < w5.heap.size := by omega
  have nb' : ¬ b = w5.heap.size := by omega
  have mb' : ¬ w5.heap.size = b := by omega
  have ltd : d < w5.heap.size := by omega
  have nd : ¬ d = w5.heap.size := by omega
  have md : ¬ w5.heap.size = d := by omega
  go_wp2
  apply ret_of
  · simp only [results, Try.results24]
    go_simp
    with_reducible rfl
  refine ⟨rfl, ?_⟩
  refine ⟨w5.heap.size, rfl, h1.size, by simp, by simp [go_sem, *], by simp [go_sem, *], by simp [go_sem, *], by simp [go_sem, *], by (repeat (first | with_reducible apply Below.drew | with_reducible refine Below.setCell ?_ (by first | exact Nat.le_refl _ | (simp; done) | (simp; omega) | omega) _ | with_reducible refine Below.alloc ?_ (by first | exact Nat.le_refl _ | (simp; done) | (simp; omega) | omega) _ | with_reducible exact Below.refl _ _ | with_reducible assumption))⟩

set_option maxHeartbeats 2000000 in
theorem decide_D0b (t s v x0 x1 x2 x3 x4 : Int) (c : Bool) (w : World) (hm : mayS ⟨t, c, s, v⟩ = true) (hx : (x3 == 4) = false) (ho : errOf (ordOk ⟨x0, x1, x2, x3, x4⟩) = 0) (hc1 : 0 ≤ x2) (hc2 : (x2 != v) = false) (hp : applyS ⟨t, c, s, v⟩ ⟨x3, x4⟩ = ⟨t, c, s, v⟩) :
    Calls Try.prog 24 #[.agg #[.int .i64 t, .bool c, .int .i64 s, .int .i64 v], .agg #[.int .i64 x0, .int .i64 x1, .int .i64 x2, .int .i64 x3, .int .i64 x4]] w fun e w' =>
      e = .returned (.agg #[.int .i64 3, .int .i64 v, .slice none 0 0]) ∧ Below w.heap.size w w' := by
  have ha := apply_any t s v x3 x4 c
  rw [hp] at ha
  dsimp only at ha
  have HA := Lib.hid ha
  clear ha hp
  go_enter Try.func24, Try.ntmps24
  go_wp2_with fail
  refine (may_any _ _ _ _ _).mono ?_
  rintro e w1 ⟨rfl, hb⟩
  have hk_new : Keeps (w.heap.size + 4) [(⟨w.heap.size, 0, none⟩, .int .i64 t), (⟨w.heap.size, 1, none⟩, .bool c), (⟨w.heap.size, 2, none⟩, .int .i64 s), (⟨w.heap.size, 3, none⟩, .int .i64 v), (⟨w.heap.size + 1, 0, none⟩, .int .i64 x0), (⟨w.heap.size + 1, 1, none⟩, .int .i64 x1), (⟨w.heap.size + 1, 2, none⟩, .int .i64 x2), (⟨w.heap.size + 1, 3, none⟩, .int .i64 x3), (⟨w.heap.size + 1, 4, none⟩, .int .i64 x4), (⟨w.heap.size + 2, 0, none⟩, .int .i64 0), (⟨w.heap.size + 2, 1, none⟩, .int .i64 0), (⟨w.heap.size + 2, 2, none⟩, .slice none 0 0), (⟨w.heap.size + 3, 0, none⟩, .int .i64 7), (⟨w.heap.size + 3, 1, none⟩, .int .i64 0), (⟨w.heap.size + 3, 2, none⟩, .slice none 0 0)] w w1 := by
    refine Keeps.below ⟨?_, by first | (simp; done) | (simp; omega) | omega, by first | (simp [List.forall_mem_cons]; done) | (simp [List.forall_mem_cons]; omega), by simp [cellsAre_cons, cellsAre_nil, go_sem, World.cell?_alloc_past, *]⟩ hb
    (repeat (first | with_reducible apply Below.drew | with_reducible refine Below.setCell ?_ (by first | exact Nat.le_refl _ | (simp; done) | (simp; omega) | omega) _ | with_reducible refine Below.alloc ?_ (by first | exact Nat.le_refl _ | (simp; done) | (simp; omega) | omega) _ | with_reducible exact Below.refl _ _ | with_reducible assumption))
  clear hb
  try clear hk
  have hk := hk_new
  clear hk_new
  have hk' := hk
  obtain ⟨h1, h2, h3, h4⟩ := hk'
  simp only [cellsAre_cons, cellsAre_nil, and_true] at h4
  have lt0_b : w.heap.size < w1.heap.size := by omega
  have n0_b : ¬ w.heap.size = w1.heap.size := by omega
  have m0_b : ¬ w1.heap.size = w.heap.size := by omega
  have lt1_b : w.heap.size + 1 < w1.heap.size := by omega
  have n1_b : ¬ w.heap.size + 1 = w1.heap.size := by omega
  have m1_b : ¬ w1.heap.size = w.heap.size + 1 := by omega
  have lt2_b : w.heap.size + 1 + 1 < w1.heap.size := by omega
  have n2_b : ¬ w.heap.size + 1 + 1 = w1.heap.size := by omega
  have m2_b : ¬ w1.heap.size = w.heap.size + 1 + 1 := by omega
  have lt2p_b : w.heap.size + 2 < w1.heap.size := by omega
  have n2p_b : ¬ w.heap.size + 2 = w1.heap.size := by omega
  have m2p_b : ¬ w1.heap.size = w.heap.size + 2 := by omega
  have lt3_b : w.heap.size + 1 + 1 + 1 < w1.heap.size := by omega
  have n3_b : ¬ w.heap.size + 1 + 1 + 1 = w1.heap.size := by omega
  have m3_b : ¬ w1.heap.size = w.heap.size + 1 + 1 + 1 := by omega
  have lt3p_b : w.heap.size + 3 < w1.heap.size := by omega
  have n3p_b : ¬ w.heap.size + 3 = w1.heap.size := by omega
  have m3p_b : ¬ w1.heap.size = w.heap.size + 3 := by omega
  have h2b := h2
  go_wp2_with fail
  refine (HA.out _).mono ?_
  rintro e w3 ⟨rfl, hb⟩
  have hk_new : Keeps (w1.heap.size + 1) [(⟨w1.heap.size, 0, none⟩, .int .i64 x3), (⟨w1.heap.size, 1, none⟩, .int .i64 x4), (⟨w.heap.size, 0, none⟩, .int .i64 t), (⟨w.heap.size, 1, none⟩, .bool c), (⟨w.heap.size, 2, none⟩, .int .i64 s), (⟨w.heap.size, 3, none⟩, .int .i64 v), (⟨w.heap.size + 1, 0, none⟩, .int .i64 x0), (⟨w.heap.size + 1, 1, none⟩, .int .i64 x1), (⟨w.heap.size + 1, 2, none⟩, .int .i64 x2), (⟨w.heap.size + 1, 3, none⟩, .int .i64 x3), (⟨w.heap.size + 1, 4, none⟩, .int .i64 x4), (⟨w.heap.size + 2, 0, none⟩, .int .i64 0), (⟨w.heap.size + 2, 1, none⟩, .int .i64 0), (⟨w.heap.size + 2, 2, none⟩, .slice none 0 0), (⟨w.heap.size + 3, 0, none⟩, .int .i64 7), (⟨w.heap.size + 3, 1, none⟩, .int .i64 v), (⟨w.heap.size + 3, 2, none⟩, .slice none 0 0)] w w3 := by
    refine Keeps.below ⟨?_, by first | (simp; done) | (simp; omega) | omega, by first | (simp [List.forall_mem_cons]; done) | (simp [List.forall_mem_cons]; omega), by simp [cellsAre_cons, cellsAre_nil, go_sem, World.cell?_alloc_past, *]⟩ hb
    (repeat (first | with_reducible apply Below.drew | with_reducible refine Below.setCell ?_ (by first | exact Nat.le_refl _ | (simp; done) | (simp; omega) | omega) _ | with_reducible refine Below.alloc ?_ (by first | exact Nat.le_refl _ | (simp; done) | (simp; omega) | omega) _ | with_reducible exact Below.refl _ _ | with_reducible assumption))
  clear hb
  try clear hk
  have hk := hk_new
  clear hk_new
  clear h1 h2 h3 h4
  have hk' := hk
  obtain ⟨h1, h2, h3, h4⟩ := hk'
  simp only [cellsAre_cons, cellsAre_nil, and_true] at h4
  clear lt0_b lt1_b lt2_b lt2p_b lt3_b lt3p_b
  generalize w1.heap.size = b at *
  have lt0_d : w.heap.size < w3.heap.size := by omega
  have n0_d : ¬ w.heap.size = w3.heap.size := by omega
  have m0_d : ¬ w3.heap.size = w.heap.size := by omega
  have lt1_d : w.heap.size + 1 < w3.heap.size := by omega
  have n1_d : ¬ w.heap.size + 1 = w3.heap.size := by omega
  have m1_d : ¬ w3.heap.size = w.heap.size + 1 := by omega
  have lt2_d : w.heap.size + 1 + 1 < w3.heap.size := by omega
  have n2_d : ¬ w.heap.size + 1 + 1 = w3.heap.size := by omega
  have m2_d : ¬ w3.heap.size = w.heap.size + 1 + 1 := by omega
  have lt2p_d : w.heap.size + 2 < w3.heap.size := by omega
  have n2p_d : ¬ w.heap.size + 2 = w3.heap.size := by omega
  have m2p_d : ¬ w3.heap.size = w.heap.size + 2 := by omega
  have lt3_d : w.heap.size + 1 + 1 + 1 < w3.heap.size := by omega
  have n3_d : ¬ w.heap.size + 1 + 1 + 1 = w3.heap.size := by omega
  have m3_d : ¬ w3.heap.size = w.heap.size + 1 + 1 + 1 := by omega
  have lt3p_d : w.heap.size + 3 < w3.heap.size := by omega
  have n3p_d : ¬ w.heap.size + 3 = w3.heap.size := by omega
  have m3p_d : ¬ w3.heap.size = w.heap.size + 3 := by omega
  have hbd : b < w3.heap.size := by omega
  have nb : ¬ b = w3.heap.size := by omega
  have mb : ¬ w3.heap.size = b := by omega
  go_wp2_with fail
  refine (check_any _ _ _ _ _ _).mono ?_
  rintro e w5 ⟨rfl, hb⟩
  have hk_new : Keeps (w3.heap.size + 1) [(⟨w3.heap.size, 0, none⟩, .int .i64 t), (⟨w3.heap.size, 1, none⟩, .bool c), (⟨w3.heap.size, 2, none⟩, .int .i64 s), (⟨w3.heap.size, 3, none⟩, .int .i64 v), (⟨b, 0, none⟩, .int .i64 x3), (⟨b, 1, none⟩, .int .i64 x4), (⟨w.heap.size, 0, none⟩, .int .i64 t), (⟨w.heap.size, 1, none⟩, .bool c), (⟨w.heap.size, 2, none⟩, .int .i64 s), (⟨w.heap.size, 3, none⟩, .int .i64 v), (⟨w.heap.size + 1, 0, none⟩, .int .i64 x0), (⟨w.heap.size + 1, 1, none⟩, .int .i64 x1), (⟨w.heap.size + 1, 2, none⟩, .int .i64 x2), (⟨w.heap.size + 1, 3, none⟩, .int .i64 x3), (⟨w.heap.size + 1, 4, none⟩, .int .i64 x4), (⟨w.heap.size + 2, 0, none⟩, .int .i64 0), (⟨w.heap.size + 2, 1, none⟩, .int .i64 0), (⟨w.heap.size + 2, 2, none⟩, .slice none 0 0), (⟨w.heap.size + 3, 0, none⟩, .int .i64 7), (⟨w.heap.size + 3, 1, none⟩, .int .i64 v), (⟨w.heap.size + 3, 2, none⟩, .slice none 0 0)] w w5 := by
    refine Keeps.below ⟨?_, by first | (simp; done) | (simp; omega) | omega, by first | (simp [List.forall_mem_cons]; done) | (simp [List.forall_mem_cons]; omega), by simp [cellsAre_cons, cellsAre_nil, go_sem, World.cell?_alloc_past, *]⟩ hb
    (repeat (first | with_reducible apply Below.drew | with_reducible refine Below.setCell ?_ (by first | exact Nat.le_refl _ | (simp; done) | (simp; omega) | omega) _ | with_reducible refine Below.alloc ?_ (by first | exact Nat.le_refl _ | (simp; done) | (simp; omega) | omega) _ | with_reducible exact Below.refl _ _ | with_reducible assumption))
  clear hb
  try clear hk
  have hk := hk_new
  clear hk_new
  clear h1 h2 h3 h4
  have hk' := hk
  obtain ⟨h1, h2, h3, h4⟩ := hk'
  simp only [cellsAre_cons, cellsAre_nil, and_true] at h4
  clear lt0_d lt1_d lt2_d lt2p_d lt3_d lt3p_d
  generalize w3.heap.size = d at *
  go_wp2
  apply ret_of
  · simp only [results, Try.results24]
    go_simp
    with_reducible rfl
  refine ⟨rfl, ?_⟩
  exact ⟨rfl, by (repeat (first | with_reducible apply Below.drew | with_reducible refine Below.setCell ?_ (by first | exact Nat.le_refl _ | (simp; done) | (simp; omega) | omega) _ | with_reducible refine Below.alloc ?_ (by first | exact Nat.le_refl _ | (simp; done) | (simp; omega) | omega) _ | with_reducible exact Below.refl _ _ | with_reducible assumption))⟩

set_option maxHeartbeats 2000000 in
theorem decide_E0b (t s v x0 x1 x2 x3 x4 : Int) (c : Bool) (w : World) (hm : mayS ⟨t, c, s, v⟩ = true) (hx : (x3 == 4) = false) (ho : errOf (ordOk ⟨x0, x1, x2, x3, x4⟩) = 0) (hc1 : 0 ≤ x2) (hc2 : (x2 != v) = false) (pt ps : Int) (pc : Bool) (hp : applyS ⟨t, c, s, v⟩ ⟨x3, x4⟩ = ⟨pt, pc, ps, v + 1⟩) :
    Calls Try.prog 24 #[.agg #[.int .i64 t, .bool c, .int .i64 s, .int .i64 v], .agg #[.int .i64 x0, .int .i64 x1, .int .i64 x2, .int .i64 x3, .int .i64 x4]] w fun e w' =>
      OutNew w w' (v + 1) x3 x4 e := by
  have ha := apply_any t s v x3 x4 c
  rw [hp] at ha
  dsimp only at ha
  have HA := Lib.hid ha
  clear ha hp
  go_enter Try.func24, Try.ntmps24
  go_wp2_with fail
  refine (may_any _ _ _ _ _).mono ?_
  rintro e w1 ⟨rfl, hb⟩
  have hk_new : Keeps (w.heap.size + 4) [(⟨w.heap.size, 0, none⟩, .int .i64 t), (⟨w.heap.size, 1, none⟩, .bool c), (⟨w.heap.size, 2, none⟩, .int .i64 s), (⟨w.heap.size, 3, none⟩, .int .i64 v), (⟨w.heap.size + 1, 0, none⟩, .int .i64 x0), (⟨w.heap.size + 1, 1, none⟩, .int .i64 x1), (⟨w.heap.size + 1, 2, none⟩, .int .i64 x2), (⟨w.heap.size + 1, 3, none⟩, .int .i64 x3), (⟨w.heap.size + 1, 4, none⟩, .int .i64 x4), (⟨w.heap.size + 2, 0, none⟩, .int .i64 0), (⟨w.heap.size + 2, 1, none⟩, .int .i64 0), (⟨w.heap.size + 2, 2, none⟩, .slice none 0 0), (⟨w.heap.size + 3, 0, none⟩, .int .i64 7), (⟨w.heap.size + 3, 1, none⟩, .int .i64 0), (⟨w.heap.size + 3, 2, none⟩, .slice none 0 0)] w w1 := by
    refine Keeps.below ⟨?_, by first | (simp; done) | (simp; omega) | omega, by first | (simp [List.forall_mem_cons]; done) | (simp [List.forall_mem_cons]; omega), by simp [cellsAre_cons, cellsAre_nil, go_sem, World.cell?_alloc_past, *]⟩ hb
    (repeat (first | with_reducible apply Below.drew | with_reducible refine Below.setCell ?_ (by first | exact Nat.le_refl _ | (simp; done) | (simp; omega) | omega) _ | with_reducible refine Below.alloc ?_ (by first | exact Nat.le_refl _ | (simp; done) | (simp; omega) | omega) _ | with_reducible exact Below.refl _ _ | with_reducible assumption))
  clear hb
  try clear hk
  have hk := hk_new
  clear hk_new
  have hk' := hk
  obtain ⟨h1, h2, h3, h4⟩ := hk'
  simp only [cellsAre_cons, cellsAre_nil, and_true] at h4
  have lt0_b : w.heap.size < w1.heap.size := by omega
  have n0_b : ¬ w.heap.size = w1.heap.size := by omega
  have m0_b : ¬ w1.heap.size = w.heap.size := by omega
  have lt1_b : w.heap.size + 1 < w1.heap.size := by omega
  have n1_b : ¬ w.heap.size + 1 = w1.heap.size := by omega
  have m1_b : ¬ w1.heap.size = w.heap.size + 1 := by omega
  have lt2_b : w.heap.size + 1 + 1 < w1.heap.size := by omega
  have n2_b : ¬ w.heap.size + 1 + 1 = w1.heap.size := by omega
  have m2_b : ¬ w1.heap.size = w.heap.size + 1 + 1 := by omega
  have lt2p_b : w.heap.size + 2 < w1.heap.size := by omega
  have n2p_b : ¬ w.heap.size + 2 = w1.heap.size := by omega
  have m2p_b : ¬ w1.heap.size = w.heap.size + 2 := by omega
  have lt3_b : w.heap.size + 1 + 1 + 1 < w1.heap.size := by omega
  have n3_b : ¬ w.heap.size + 1 + 1 + 1 = w1.heap.size := by omega
  have m3_b : ¬ w1.heap.size = w.heap.size + 1 + 1 + 1 := by omega
  have lt3p_b : w.heap.size + 3 < w1.heap.size := by omega
  have n3p_b : ¬ w.heap.size + 3 = w1.heap.size := by omega
  have m3p_b : ¬ w1.heap.size = w.heap.size + 3 := by omega
  have h2b := h2
  go_wp2_with fail
  refine (HA.out _).mono ?_
  rintro e w3 ⟨rfl, hb⟩
  have hk_new : Keeps (w1.heap.size + 1) [(⟨w1.heap.size, 0, none⟩, .int .i64 x3), (⟨w1.heap.size, 1, none⟩, .int .i64 x4), (⟨w.heap.size, 0, none⟩, .int .i64 t), (⟨w.heap.size, 1, none⟩, .bool c), (⟨w.heap.size, 2, none⟩, .int .i64 s), (⟨w.heap.size, 3, none⟩, .int .i64 v), (⟨w.heap.size + 1, 0, none⟩, .int .i64 x0), (⟨w.heap.size + 1, 1, none⟩, .int .i64 x1), (⟨w.heap.size + 1, 2, none⟩, .int .i64 x2), (⟨w.heap.size + 1, 3, none⟩, .int .i64 x3), (⟨w.heap.size + 1, 4, none⟩, .int .i64 x4), (⟨w.heap.size + 2, 0, none⟩, .int .i64 0), (⟨w.heap.size + 2, 1, none⟩, .int .i64 0), (⟨w.heap.size + 2, 2, none⟩, .slice none 0 0), (⟨w.heap.size + 3, 0, none⟩, .int .i64 7), (⟨w.heap.size + 3, 1, none⟩, .int .i64 v), (⟨w.heap.size + 3, 2, none⟩, .slice none 0 0)] w w3 := by
    refine Keeps.below ⟨?_, by first | (simp; done) | (simp; omega) | omega, by first | (simp [List.forall_mem_cons]; done) | (simp [List.forall_mem_cons]; omega), by simp [cellsAre_cons, cellsAre_nil, go_sem, World.cell?_alloc_past, *]⟩ hb
    (repeat (first | with_reducible apply Below.drew | with_reducible refine Below.setCell ?_ (by first | exact Nat.le_refl _ | (simp; done) | (simp; omega) | omega) _ | with_reducible refine Below.alloc ?_ (by first | exact Nat.le_refl _ | (simp; done) | (simp; omega) | omega) _ | with_reducible exact Below.refl _ _ | with_reducible assumption))
  clear hb
  try clear hk
  have hk := hk_new
  clear hk_new
  clear h1 h2 h3 h4
  have hk' := hk
  obtain ⟨h1, h2, h3, h4⟩ := hk'
  simp only [cellsAre_cons, cellsAre_nil, and_true] at h4
  clear lt0_b lt1_b lt2_b lt2p_b lt3_b lt3p_b
  generalize w1.heap.size = b at *
  have lt0_d : w.heap.size < w3.heap.size := by omega
  have n0_d : ¬ w.heap.size = w3.heap.size := by omega
  have m0_d : ¬ w3.heap.size = w.heap.size := by omega
  have lt1_d : w.heap.size + 1 < w3.heap.size := by omega
  have n1_d : ¬ w.heap.size + 1 = w3.heap.size := by omega
  have m1_d : ¬ w3.heap.size = w.heap.size + 1 := by omega
  have lt2_d : w.heap.size + 1 + 1 < w3.heap.size := by omega
  have n2_d : ¬ w.heap.size + 1 + 1 = w3.heap.size := by omega
  have m2_d : ¬ w3.heap.size = w.heap.size + 1 + 1 := by omega
  have lt2p_d : w.heap.size + 2 < w3.heap.size := by omega
  have n2p_d : ¬ w.heap.size + 2 = w3.heap.size := by omega
  have m2p_d : ¬ w3.heap.size = w.heap.size + 2 := by omega
  have lt3_d : w.heap.size + 1 + 1 + 1 < w3.heap.size := by omega
  have n3_d : ¬ w.heap.size + 1 + 1 + 1 = w3.heap.size := by omega
  have m3_d : ¬ w3.heap.size = w.heap.size + 1 + 1 + 1 := by omega
  have lt3p_d : w.heap.size + 3 < w3.heap.size := by omega
  have n3p_d : ¬ w.heap.size + 3 = w3.heap.size := by omega
  have m3p_d : ¬ w3.heap.size = w.heap.size + 3 := by omega
  have hbd : b < w3.heap.size := by omega
  have nb : ¬ b = w3.heap.size := by omega
  have mb : ¬ w3.heap.size = b := by omega
  go_wp2_with fail
  refine (check_any _ _ _ _ _ _).mono ?_
  rintro e w5 ⟨rfl, hb⟩
  have hk_new : Keeps (w3.heap.size + 1) [(⟨w3.heap.size, 0, none⟩, .int .i64 pt), (⟨w3.heap.size, 1, none⟩, .bool pc), (⟨w3.heap.size, 2, none⟩, .int .i64 ps), (⟨w3.heap.size, 3, none⟩, .int .i64 (v + 1)), (⟨b, 0, none⟩, .int .i64 x3), (⟨b, 1, none⟩, .int .i64 x4), (⟨w.heap.size, 0, none⟩, .int .i64 t), (⟨w.heap.size, 1, none⟩, .bool c), (⟨w.heap.size, 2, none⟩, .int .i64 s), (⟨w.heap.size, 3, none⟩, .int .i64 v), (⟨w.heap.size + 1, 0, none⟩, .int .i64 x0), (⟨w.heap.size + 1, 1, none⟩, .int .i64 x1), (⟨w.heap.size + 1, 2, none⟩, .int .i64 x2), (⟨w.heap.size + 1, 3, none⟩, .int .i64 x3), (⟨w.heap.size + 1, 4, none⟩, .int .i64 x4), (⟨w.heap.size + 2, 0, none⟩, .int .i64 0), (⟨w.heap.size + 2, 1, none⟩, .int .i64 0), (⟨w.heap.size + 2, 2, none⟩, .slice none 0 0), (⟨w.heap.size + 3, 0, none⟩, .int .i64 7), (⟨w.heap.size + 3, 1, none⟩, .int .i64 v), (⟨w.heap.size + 3, 2, none⟩, .slice none 0 0)] w w5 := by
    refine Keeps.below ⟨?_, by first | (simp; done) | (simp; omega) | omega, by first | (simp [List.forall_mem_cons]; done) | (simp [List.forall_mem_cons]; omega), by simp [cellsAre_cons, cellsAre_nil, go_sem, World.cell?_alloc_past, *]⟩ hb
    (repeat (first | with_reducible apply Below.drew | with_reducible refine Below.setCell ?_ (by first | exact Nat.le_refl _ | (simp; done) | (simp; omega) | omega) _ | with_reducible refine Below.alloc ?_ (by first | exact Nat.le_refl _ | (simp; done) | (simp; omega) | omega) _ | with_reducible exact Below.refl _ _ | with_reducible assumption))
  clear hb
  try clear hk
  have hk := hk_new
  clear hk_new
  clear h1 h2 h3 h4
  have hk' := hk
  obtain ⟨h1, h2, h3, h4⟩ := hk'
  simp only [cellsAre_cons, cellsAre_nil, and_true] at h4
  clear lt0_d lt1_d lt2_d lt2p_d lt3_d lt3p_d
  generalize w3.heap.size = d at *
  have lt0_f : w.heap.size < w5.heap.size := by omega
  have n0_f : ¬ w.heap.size = w5.heap.size := by omega
  have m0_f : ¬ w5.heap.size = w.heap.size := by omega
  have lt1_f : w.heap.size + 1 < w5.heap.size := by omega
  have n1_f : ¬ w.heap.size + 1 = w5.heap.size := by omega
  have m1_f : ¬ w5.heap.size = w.heap.size + 1 := by omega
  have lt2_f : w.heap.size + 1 + 1 < w5.heap.size := by omega
  have n2_f : ¬ w.heap.size + 1 + 1 = w5.heap.size := by omega
  have m2_f : ¬ w5.heap.size = w.heap.size + 1 + 1 := by omega
  have lt2p_f : w.heap.size + 2 < w5.heap.size := by omega
  have n2p_f : ¬ w.heap.size + 2 = w5.heap.size := by omega
  have m2p_f : ¬ w5.heap.size = w.heap.size + 2 := by omega
  have lt3_f : w.heap.size + 1 + 1 + 1 < w5.heap.size := by omega
  have n3_f : ¬ w.heap.size + 1 + 1 + 1 = w5.heap.size := by omega
  have m3_f : ¬ w5.heap.size = w.heap.size + 1 + 1 + 1 := by omega
  have lt3p_f : w.heap.size + 3 < w5.heap.size := by omega
  have n3p_f : ¬ w.heap.size + 3 = w5.heap.size := by omega
  have m3p_f : ¬ w5.heap.size = w.heap.size + 3 := by omega
  have ltb : b < w5.heap.size := by omega
  have nb' : ¬ b = w5.heap.size := by omega
  have mb' : ¬ w5.heap.size = b := by omega
  have ltd : d < w5.heap.size := by omega
  have nd : ¬ d = w5.heap.size := by omega
  have md : ¬ w5.heap.size = d := by omega
  go_wp2
  apply ret_of
  · simp only [results, Try.results24]
    go_simp
    with_reducible rfl
  refine ⟨rfl, ?_⟩
  refine ⟨w5.heap.size, rfl, h1.size, by simp, by simp [go_sem, *], by simp [go_sem, *], by simp [go_sem, *], by simp [go_sem, *], by (repeat (first | with_reducible apply Below.drew | with_reducible refine Below.setCell ?_ (by first | exact Nat.le_refl _ | (simp; done) | (simp; omega) | omega) _ | with_reducible refine Below.alloc ?_ (by first | exact Nat.le_refl _ | (simp; done) | (simp; omega) | omega) _ | with_reducible exact Below.refl _ _ | with_reducible assumption))⟩
end Go.Proofs.Ytifeokabecgimaa
