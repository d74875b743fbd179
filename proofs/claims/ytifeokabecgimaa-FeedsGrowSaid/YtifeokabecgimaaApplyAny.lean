/-
  The walk over 'deeds.Apply' at what was never opened; and at whatever state.
-/
import Derived.Test.YtifeokabecgimaaProg
import Derived.Test.YtifeokabecgimaaSeq
import Derived.WalkKit
import Derived.WalkSpells
import Derived.WalkLawsBesides
import Derived.RowKit3
import Derived.Lib.Hide
import Derived.Test.YtifeokabecgimaaApply1
import Derived.Test.YtifeokabecgimaaApply2
import Derived.Test.YtifeokabecgimaaApply3
set_option linter.unusedSimpArgs false
set_option linter.unusedVariables false
set_option maxRecDepth 100000
namespace Go.Proofs.Ytifeokabecgimaa
open Go.RowKit Go.Sq Go.Arch

set_option maxHeartbeats 2000000 in
theorem apply_0_n (k a : Int) (h : a < 1 ∨ 3 < a) (w : World) :
    Calls Try.prog 22 #[.agg #[.int .i64 0, .bool false, .int .i64 0, .int .i64 0], .agg #[.int .i64 k, .int .i64 a]] w fun e w' =>
      e = .returned (.agg #[.int .i64 (applyS ⟨0, false, 0, 0⟩ ⟨k, a⟩).tag, .bool (applyS ⟨0, false, 0, 0⟩ ⟨k, a⟩).closed, .int .i64 (applyS ⟨0, false, 0, 0⟩ ⟨k, a⟩).sum, .int .i64 (applyS ⟨0, false, 0, 0⟩ ⟨k, a⟩).ver]) ∧ Below w.heap.size w w' := by
  have hap := applyS_0 k a
  generalize applyS ⟨0, false, 0, 0⟩ ⟨k, a⟩ = ap at hap ⊢
  have HA := Lib.hid hap
  clear hap
  have hm : mayS ⟨0, false, 0, 0⟩ = true := by simp [mayS]
  go_enter Try.func22, Try.ntmps22
  go_wp2_with fail
  refine (may_any _ _ _ _ _).mono ?_
  rintro e w1 ⟨rfl, hb⟩
  have hk : Keeps (w.heap.size + 3) [(⟨w.heap.size, 0, none⟩, .int .i64 0), (⟨w.heap.size, 1, none⟩, .bool false), (⟨w.heap.size, 2, none⟩, .int .i64 0), (⟨w.heap.size, 3, none⟩, .int .i64 0), (⟨w.heap.size + 1, 0, none⟩, .int .i64 k), (⟨w.heap.size + 1, 1, none⟩, .int .i64 a), (⟨w.heap.size + 2, 0, none⟩, .int .i64 0), (⟨w.heap.size + 2, 1, none⟩, .bool false), (⟨w.heap.size + 2, 2, none⟩, .int .i64 0), (⟨w.heap.size + 2, 3, none⟩, .int .i64 0)] w w1 := by
    refine Keeps.below ⟨?_, by simp, by simp [List.forall_mem_cons], by simp [cellsAre_cons, cellsAre_nil, go_sem, World.cell?_alloc_past]⟩ hb
    (repeat (first | with_reducible apply Below.drew | with_reducible refine Below.setCell ?_ (by first | exact Nat.le_refl _ | (simp; done) | (simp; omega) | omega) _ | with_reducible refine Below.alloc ?_ (by first | exact Nat.le_refl _ | (simp; done) | (simp; omega) | omega) _ | with_reducible exact Below.refl _ _ | with_reducible assumption))
  clear hb
  have hk' := hk
  obtain ⟨h1, h2, h3, h4⟩ := hk'
  simp only [cellsAre_cons, cellsAre_nil, and_true] at h4
  go_wp2_with fail
  refine wp_region_q 4 3 (fun w' => Keeps (w.heap.size + 3) [(⟨w.heap.size, 0, none⟩, .int .i64 0), (⟨w.heap.size, 1, none⟩, .bool false), (⟨w.heap.size, 2, none⟩, .int .i64 0), (⟨w.heap.size, 3, none⟩, .int .i64 0), (⟨w.heap.size + 1, 0, none⟩, .int .i64 k), (⟨w.heap.size + 1, 1, none⟩, .int .i64 a), (⟨w.heap.size + 2, 0, none⟩, .int .i64 0), (⟨w.heap.size + 2, 1, none⟩, .bool false), (⟨w.heap.size + 2, 2, none⟩, .int .i64 0), (⟨w.heap.size + 2, 3, none⟩, .int .i64 0)] w w') (by kernel_rfl) (by kernel_rfl) (by kernel_rfl) (by kernel_rfl) (by kernel_rfl) (by apply Keeps.drew; assumption) rfl ?_
  intro K T hK hT
  simp only [List.map, List.take, List.drop] at hK ⊢
  go_wp2_with (first
    | (apply SeqQ.skip; rfl; simp only [Act.put, List.setIfInBounds_toArray, List.set_cons_zero, List.set_cons_succ])
    | (apply SeqQ.call; rfl; rfl; (intro w hw; obtain ⟨h1, h2, h3, h4⟩ := hT _ hw; simp only [cellsAre_cons, cellsAre_nil, and_true] at h4; go_simp; exact ⟨rfl, rfl⟩); (intro w hw; obtain ⟨h1, h2, h3, h4⟩ := hT _ hw; simp only [cellsAre_cons, cellsAre_nil, and_true] at h4; (first | (go_at_call 39; refine (of_none _ _ (by omega)).mono ?_; rintro e w' ⟨rfl, rfl⟩; exact ⟨rfl, rfl⟩))); simp only [Act.put, List.setIfInBounds_toArray, List.set_cons_zero, List.set_cons_succ])
    | (apply SeqQ.pure; rfl; (intro w hw; obtain ⟨h1, h2, h3, h4⟩ := hT _ hw; simp only [cellsAre_cons, cellsAre_nil, and_true] at h4; go_simp; with_reducible rfl); simp only [Act.put, List.setIfInBounds_toArray, List.set_cons_zero, List.set_cons_succ])
    | (apply SeqQ.split; rfl; rfl; all_goals (intro hc; simp only [hc]; try simp only [beq_iff_eq, decide_eq_true_eq, beq_eq_false_iff_ne, decide_eq_false_iff_not, bne_iff_ne, ne_eq, Bool.not_eq_true', Bool.not_eq_false', Int.not_le, Int.not_lt, bne_eq_false_iff_eq] at hc)))
  refine SeqQ.nil (hK _ ?_)
  clear hK hT
  refine wpListH.cons rfl (fun K' hK' => ?_)
  go_simp
  refine hK' _ _ (by repeat (first | with_reducible assumption | with_reducible apply Keeps.drew | with_reducible apply Keeps.alloc)) (fun hS => ?_)
  clear hK' hS
  refine wpListH.cons rfl (fun K' hK' => ?_)
  go_simp
  refine hK' _ _ (by repeat (first | with_reducible assumption | with_reducible apply Keeps.drew | with_reducible apply Keeps.alloc)) (fun hS => ?_)
  clear hK' hS
  refine wpListH.cons rfl (fun K' hK' => ?_)
  go_simp
  refine hK' _ _ (by repeat (first | with_reducible assumption | with_reducible apply Keeps.drew | with_reducible apply Keeps.alloc)) (fun hS => ?_)
  clear hK' hS
  refine wpListH.nil ?_
  refine abs_at (fun w' => Keeps (w1.heap.size + 1) ([(⟨w1.heap.size, 0, none⟩, .int .i64 0), (⟨w1.heap.size, 1, none⟩, .bool false), (⟨w1.heap.size, 2, none⟩, .int .i64 0), (⟨w1.heap.size, 3, none⟩, .int .i64 0)] ++ [(⟨w.heap.size, 0, none⟩, .int .i64 0), (⟨w.heap.size, 1, none⟩, .bool false), (⟨w.heap.size, 2, none⟩, .int .i64 0), (⟨w.heap.size, 3, none⟩, .int .i64 0), (⟨w.heap.size + 1, 0, none⟩, .int .i64 k), (⟨w.heap.size + 1, 1, none⟩, .int .i64 a), (⟨w.heap.size + 2, 0, none⟩, .int .i64 0), (⟨w.heap.size + 2, 1, none⟩, .bool false), (⟨w.heap.size + 2, 2, none⟩, .int .i64 0), (⟨w.heap.size + 2, 3, none⟩, .int .i64 0)]) w w') (Keeps.more (B := w.heap.size + 3) (L := [(⟨w.heap.size, 0, none⟩, .int .i64 0), (⟨w.heap.size, 1, none⟩, .bool false), (⟨w.heap.size, 2, none⟩, .int .i64 0), (⟨w.heap.size, 3, none⟩, .int .i64 0), (⟨w.heap.size + 1, 0, none⟩, .int .i64 k), (⟨w.heap.size + 1, 1, none⟩, .int .i64 a), (⟨w.heap.size + 2, 0, none⟩, .int .i64 0), (⟨w.heap.size + 2, 1, none⟩, .bool false), (⟨w.heap.size + 2, 2, none⟩, .int .i64 0), (⟨w.heap.size + 2, 3, none⟩, .int .i64 0)]) (by repeat (first | with_reducible assumption | with_reducible apply Keeps.drew | with_reducible apply Keeps.alloc)) (by omega) (by simp) (by simp [List.forall_mem_cons]) (by simp [cellsAre_cons, cellsAre_nil, go_sem])) ?_
  intro w2 hk2
  clear hk h1 h3 h4
  generalize w1.heap.size = b at *
  simp only [List.cons_append, List.nil_append] at hk2
  have hB := h2
  clear h2
  obtain ⟨h1, h2, h3, h4⟩ := id hk2
  simp only [cellsAre_cons, cellsAre_nil, and_true] at h4
  have n0 : ¬ w.heap.size = b := by omega
  have n1 : ¬ w.heap.size + 1 = b := by omega
  have n2 : ¬ w.heap.size + 1 + 1 = b := by omega
  have n2' : ¬ w.heap.size + 2 = b := by omega
  have m0 : ¬ b = w.heap.size := by omega
  have m1 : ¬ b = w.heap.size + 1 := by omega
  have m2 : ¬ b = w.heap.size + 1 + 1 := by omega
  have m2' : ¬ b = w.heap.size + 2 := by omega
  go_wp2_with (go_at_call 39; refine (of_none _ _ h).mono ?_; rintro e w' ⟨rfl, rfl⟩)
  all_goals
    apply ret_of
    · simp only [results, Try.results22]
      go_simp
      with_reducible rfl
    refine ⟨rfl, ?_⟩
    refine ⟨ret_st (p := ⟨_, _, _, _⟩) ?_, by (repeat (first | with_reducible apply Below.drew | with_reducible refine Below.setCell ?_ (by first | exact Nat.le_refl _ | (simp; done) | (simp; omega) | omega) _ | with_reducible refine Below.alloc ?_ (by first | exact Nat.le_refl _ | (simp; done) | (simp; omega) | omega) _ | with_reducible exact Below.refl _ _ | with_reducible assumption))⟩
    rw [HA.out]
    clear HA h1 h2 h3 h4 hk2 hm n0 n1 n2 n2' m0 m1 m2 m2' hB
    (try simp only [beq_iff_eq, decide_eq_true_eq, beq_eq_false_iff_ne, decide_eq_false_iff_not, bne_iff_ne, ne_eq, Bool.not_eq_true', Bool.not_eq_false', Int.not_le, Int.not_lt, not_false_eq_true, bne_eq_false_iff_eq] at *)
    (repeat' split) <;> first | rfl | (exfalso; omega) | (congr 1 <;> omega)

set_option maxHeartbeats 2000000 in
theorem apply_0_1 (k : Int) (w : World) :
    Calls Try.prog 22 #[.agg #[.int .i64 0, .bool false, .int .i64 0, .int .i64 0], .agg #[.int .i64 k, .int .i64 1]] w fun e w' =>
      e = .returned (.agg #[.int .i64 (applyS ⟨0, false, 0, 0⟩ ⟨k, 1⟩).tag, .bool (applyS ⟨0, false, 0, 0⟩ ⟨k, 1⟩).closed, .int .i64 (applyS ⟨0, false, 0, 0⟩ ⟨k, 1⟩).sum, .int .i64 (applyS ⟨0, false, 0, 0⟩ ⟨k, 1⟩).ver]) ∧ Below w.heap.size w w' := by
  have hap := applyS_0 k 1
  generalize applyS ⟨0, false, 0, 0⟩ ⟨k, 1⟩ = ap at hap ⊢
  have HA := Lib.hid hap
  clear hap
  have hm : mayS ⟨0, false, 0, 0⟩ = true := by simp [mayS]
  go_enter Try.func22, Try.ntmps22
  go_wp2_with fail
  refine (may_any _ _ _ _ _).mono ?_
  rintro e w1 ⟨rfl, hb⟩
  have hk : Keeps (w.heap.size + 3) [(⟨w.heap.size, 0, none⟩, .int .i64 0), (⟨w.heap.size, 1, none⟩, .bool false), (⟨w.heap.size, 2, none⟩, .int .i64 0), (⟨w.heap.size, 3, none⟩, .int .i64 0), (⟨w.heap.size + 1, 0, none⟩, .int .i64 k), (⟨w.heap.size + 1, 1, none⟩, .int .i64 1), (⟨w.heap.size + 2, 0, none⟩, .int .i64 0), (⟨w.heap.size + 2, 1, none⟩, .bool false), (⟨w.heap.size + 2, 2, none⟩, .int .i64 0), (⟨w.heap.size + 2, 3, none⟩, .int .i64 0)] w w1 := by
    refine Keeps.below ⟨?_, by simp, by simp [List.forall_mem_cons], by simp [cellsAre_cons, cellsAre_nil, go_sem, World.cell?_alloc_past]⟩ hb
    (repeat (first | with_reducible apply Below.drew | with_reducible refine Below.setCell ?_ (by first | exact Nat.le_refl _ | (simp; done) | (simp; omega) | omega) _ | with_reducible refine Below.alloc ?_ (by first | exact Nat.le_refl _ | (simp; done) | (simp; omega) | omega) _ | with_reducible exact Below.refl _ _ | with_reducible assumption))
  clear hb
  have hk' := hk
  obtain ⟨h1, h2, h3, h4⟩ := hk'
  simp only [cellsAre_cons, cellsAre_nil, and_true] at h4
  go_wp2_with fail
  refine wp_region_q 4 3 (fun w' => Keeps (w.heap.size + 3) [(⟨w.heap.size, 0, none⟩, .int .i64 0), (⟨w.heap.size, 1, none⟩, .bool false), (⟨w.heap.size, 2, none⟩, .int .i64 0), (⟨w.heap.size, 3, none⟩, .int .i64 0), (⟨w.heap.size + 1, 0, none⟩, .int .i64 k), (⟨w.heap.size + 1, 1, none⟩, .int .i64 1), (⟨w.heap.size + 2, 0, none⟩, .int .i64 0), (⟨w.heap.size + 2, 1, none⟩, .bool false), (⟨w.heap.size + 2, 2, none⟩, .int .i64 0), (⟨w.heap.size + 2, 3, none⟩, .int .i64 0)] w w') (by kernel_rfl) (by kernel_rfl) (by kernel_rfl) (by kernel_rfl) (by kernel_rfl) (by apply Keeps.drew; assumption) rfl ?_
  intro K T hK hT
  simp only [List.map, List.take, List.drop] at hK ⊢
  go_wp2_with (first
    | (apply SeqQ.skip; rfl; simp only [Act.put, List.setIfInBounds_toArray, List.set_cons_zero, List.set_cons_succ])
    | (apply SeqQ.call; rfl; rfl; (intro w hw; obtain ⟨h1, h2, h3, h4⟩ := hT _ hw; simp only [cellsAre_cons, cellsAre_nil, and_true] at h4; go_simp; exact ⟨rfl, rfl⟩); (intro w hw; obtain ⟨h1, h2, h3, h4⟩ := hT _ hw; simp only [cellsAre_cons, cellsAre_nil, and_true] at h4; (first | (go_at_call 39; refine (of_none _ _ (by omega)).mono ?_; rintro e w' ⟨rfl, rfl⟩; exact ⟨rfl, rfl⟩))); simp only [Act.put, List.setIfInBounds_toArray, List.set_cons_zero, List.set_cons_succ])
    | (apply SeqQ.pure; rfl; (intro w hw; obtain ⟨h1, h2, h3, h4⟩ := hT _ hw; simp only [cellsAre_cons, cellsAre_nil, and_true] at h4; go_simp; with_reducible rfl); simp only [Act.put, List.setIfInBounds_toArray, List.set_cons_zero, List.set_cons_succ])
    | (apply SeqQ.split; rfl; rfl; all_goals (intro hc; simp only [hc]; try simp only [beq_iff_eq, decide_eq_true_eq, beq_eq_false_iff_ne, decide_eq_false_iff_not, bne_iff_ne, ne_eq, Bool.not_eq_true', Bool.not_eq_false', Int.not_le, Int.not_lt, bne_eq_false_iff_eq] at hc)))
  refine SeqQ.nil (hK _ ?_)
  clear hK hT
  refine wpListH.cons rfl (fun K' hK' => ?_)
  go_simp
  refine hK' _ _ (by repeat (first | with_reducible assumption | with_reducible apply Keeps.drew | with_reducible apply Keeps.alloc)) (fun hS => ?_)
  clear hK' hS
  refine wpListH.cons rfl (fun K' hK' => ?_)
  go_simp
  refine hK' _ _ (by repeat (first | with_reducible assumption | with_reducible apply Keeps.drew | with_reducible apply Keeps.alloc)) (fun hS => ?_)
  clear hK' hS
  refine wpListH.cons rfl (fun K' hK' => ?_)
  go_simp
  refine hK' _ _ (by repeat (first | with_reducible assumption | with_reducible apply Keeps.drew | with_reducible apply Keeps.alloc)) (fun hS => ?_)
  clear hK' hS
  refine wpListH.nil ?_
  refine abs_at (fun w' => Keeps (w1.heap.size + 1) ([(⟨w1.heap.size, 0, none⟩, .int .i64 0), (⟨w1.heap.size, 1, none⟩, .bool false), (⟨w1.heap.size, 2, none⟩, .int .i64 0), (⟨w1.heap.size, 3, none⟩, .int .i64 0)] ++ [(⟨w.heap.size, 0, none⟩, .int .i64 0), (⟨w.heap.size, 1, none⟩, .bool false), (⟨w.heap.size, 2, none⟩, .int .i64 0), (⟨w.heap.size, 3, none⟩, .int .i64 0), (⟨w.heap.size + 1, 0, none⟩, .int .i64 k), (⟨w.heap.size + 1, 1, none⟩, .int .i64 1), (⟨w.heap.size + 2, 0, none⟩, .int .i64 0), (⟨w.heap.size + 2, 1, none⟩, .bool false), (⟨w.heap.size + 2, 2, none⟩, .int .i64 0), (⟨w.heap.size + 2, 3, none⟩, .int .i64 0)]) w w') (Keeps.more (B := w.heap.size + 3) (L := [(⟨w.heap.size, 0, none⟩, .int .i64 0), (⟨w.heap.size, 1, none⟩, .bool false), (⟨w.heap.size, 2, none⟩, .int .i64 0), (⟨w.heap.size, 3, none⟩, .int .i64 0), (⟨w.heap.size + 1, 0, none⟩, .int .i64 k), (⟨w.heap.size + 1, 1, none⟩, .int .i64 1), (⟨w.heap.size + 2, 0, none⟩, .int .i64 0), (⟨w.heap.size + 2, 1, none⟩, .bool false), (⟨w.heap.size + 2, 2, none⟩, .int .i64 0), (⟨w.heap.size + 2, 3, none⟩, .int .i64 0)]) (by repeat (first | with_reducible assumption | with_reducible apply Keeps.drew | with_reducible apply Keeps.alloc)) (by omega) (by simp) (by simp [List.forall_mem_cons]) (by simp [cellsAre_cons, cellsAre_nil, go_sem])) ?_
  intro w2 hk2
  clear hk h1 h3 h4
  generalize w1.heap.size = b at *
  simp only [List.cons_append, List.nil_append] at hk2
  have hB := h2
  clear h2
  obtain ⟨h1, h2, h3, h4⟩ := id hk2
  simp only [cellsAre_cons, cellsAre_nil, and_true] at h4
  have n0 : ¬ w.heap.size = b := by omega
  have n1 : ¬ w.heap.size + 1 = b := by omega
  have n2 : ¬ w.heap.size + 1 + 1 = b := by omega
  have n2' : ¬ w.heap.size + 2 = b := by omega
  have m0 : ¬ b = w.heap.size := by omega
  have m1 : ¬ b = w.heap.size + 1 := by omega
  have m2 : ¬ b = w.heap.size + 1 + 1 := by omega
  have m2' : ¬ b = w.heap.size + 2 := by omega
  go_wp2_with (go_at_call 39; refine (of_1 _).mono ?_; rintro e w' ⟨rfl, rfl⟩)
  all_goals
    apply ret_of
    · simp only [results, Try.results22]
      go_simp
      with_reducible rfl
    refine ⟨rfl, ?_⟩
    refine ⟨ret_st (p := ⟨_, _, _, _⟩) ?_, by (repeat (first | with_reducible apply Below.drew | with_reducible refine Below.setCell ?_ (by first | exact Nat.le_refl _ | (simp; done) | (simp; omega) | omega) _ | with_reducible refine Below.alloc ?_ (by first | exact Nat.le_refl _ | (simp; done) | (simp; omega) | omega) _ | with_reducible exact Below.refl _ _ | with_reducible assumption))⟩
    rw [HA.out]
    clear HA h1 h2 h3 h4 hk2 hm n0 n1 n2 n2' m0 m1 m2 m2' hB
    (try simp only [beq_iff_eq, decide_eq_true_eq, beq_eq_false_iff_ne, decide_eq_false_iff_not, bne_iff_ne, ne_eq, Bool.not_eq_true', Bool.not_eq_false', Int.not_le, Int.not_lt, not_false_eq_true, bne_eq_false_iff_eq] at *)
    (repeat' split) <;> first | rfl | (exfalso; omega) | (congr 1 <;> omega)

set_option maxHeartbeats 2000000 in
theorem apply_0_2 (k : Int) (w : World) :
    Calls Try.prog 22 #[.agg #[.int .i64 0, .bool false, .int .i64 0, .int .i64 0], .agg #[.int .i64 k, .int .i64 2]] w fun e w' =>
      e = .returned (.agg #[.int .i64 (applyS ⟨0, false, 0, 0⟩ ⟨k, 2⟩).tag, .bool (applyS ⟨0, false, 0, 0⟩ ⟨k, 2⟩).closed, .int .i64 (applyS ⟨0, false, 0, 0⟩ ⟨k, 2⟩).sum, .int .i64 (applyS ⟨0, false, 0, 0⟩ ⟨k, 2⟩).ver]) ∧ Below w.heap.size w w' := by
  have hap := applyS_0 k 2
  generalize applyS ⟨0, false, 0, 0⟩ ⟨k, 2⟩ = ap at hap ⊢
  have HA := Lib.hid hap
  clear hap
  have hm : mayS ⟨0, false, 0, 0⟩ = true := by simp [mayS]
  go_enter Try.func22, Try.ntmps22
  go_wp2_with fail
  refine (may_any _ _ _ _ _).mono ?_
  rintro e w1 ⟨rfl, hb⟩
  have hk : Keeps (w.heap.size + 3) [(⟨w.heap.size, 0, none⟩, .int .i64 0), (⟨w.heap.size, 1, none⟩, .bool false), (⟨w.heap.size, 2, none⟩, .int .i64 0), (⟨w.heap.size, 3, none⟩, .int .i64 0), (⟨w.heap.size + 1, 0, none⟩, .int .i64 k), (⟨w.heap.size + 1, 1, none⟩, .int .i64 2), (⟨w.heap.size + 2, 0, none⟩, .int .i64 0), (⟨w.heap.size + 2, 1, none⟩, .bool false), (⟨w.heap.size + 2, 2, none⟩, .int .i64 0), (⟨w.heap.size + 2, 3, none⟩, .int .i64 0)] w w1 := by
    refine Keeps.below ⟨?_, by simp, by simp [List.forall_mem_cons], by simp [cellsAre_cons, cellsAre_nil, go_sem, World.cell?_alloc_past]⟩ hb
    (repeat (first | with_reducible apply Below.drew | with_reducible refine Below.setCell ?_ (by first | exact Nat.le_refl _ | (simp; done) | (simp; omega) | omega) _ | with_reducible refine Below.alloc ?_ (by first | exact Nat.le_refl _ | (simp; done) | (simp; omega) | omega) _ | with_reducible exact Below.refl _ _ | with_reducible assumption))
  clear hb
  have hk' := hk
  obtain ⟨h1, h2, h3, h4⟩ := hk'
  simp only [cellsAre_cons, cellsAre_nil, and_true] at h4
  go_wp2_with fail
  refine wp_region_q 4 3 (fun w' => Keeps (w.heap.size + 3) [(⟨w.heap.size, 0, none⟩, .int .i64 0), (⟨w.heap.size, 1, none⟩, .bool false), (⟨w.heap.size, 2, none⟩, .int .i64 0), (⟨w.heap.size, 3, none⟩, .int .i64 0), (⟨w.heap.size + 1, 0, none⟩, .int .i64 k), (⟨w.heap.size + 1, 1, none⟩, .int .i64 2), (⟨w.heap.size + 2, 0, none⟩, .int .i64 0), (⟨w.heap.size + 2, 1, none⟩, .bool false), (⟨w.heap.size + 2, 2, none⟩, .int .i64 0), (⟨w.heap.size + 2, 3, none⟩, .int .i64 0)] w w') (by kernel_rfl) (by kernel_rfl) (by kernel_rfl) (by kernel_rfl) (by kernel_rfl) (by apply Keeps.drew; assumption) rfl ?_
  intro K T hK hT
  simp only [List.map, List.take, List.drop] at hK ⊢
  go_wp2_with (first
    | (apply SeqQ.skip; rfl; simp only [Act.put, List.setIfInBounds_toArray, List.set_cons_zero, List.set_cons_succ])
    | (apply SeqQ.call; rfl; rfl; (intro w hw; obtain ⟨h1, h2, h3, h4⟩ := hT _ hw; simp only [cellsAre_cons, cellsAre_nil, and_true] at h4; go_simp; exact ⟨rfl, rfl⟩); (intro w hw; obtain ⟨h1, h2, h3, h4⟩ := hT _ hw; simp only [cellsAre_cons, cellsAre_nil, and_true] at h4; (first | (go_at_call 39; refine (of_none _ _ (by omega)).mono ?_; rintro e w' ⟨rfl, rfl⟩; exact ⟨rfl, rfl⟩))); simp only [Act.put, List.setIfInBounds_toArray, List.set_cons_zero, List.set_cons_succ])
    | (apply SeqQ.pure; rfl; (intro w hw; obtain ⟨h1, h2, h3, h4⟩ := hT _ hw; simp only [cellsAre_cons, cellsAre_nil, and_true] at h4; go_simp; with_reducible rfl); simp only [Act.put, List.setIfInBounds_toArray, List.set_cons_zero, List.set_cons_succ])
    | (apply SeqQ.split; rfl; rfl; all_goals (intro hc; simp only [hc]; try simp only [beq_iff_eq, decide_eq_true_eq, beq_eq_false_iff_ne, decide_eq_false_iff_not, bne_iff_ne, ne_eq, Bool.not_eq_true', Bool.not_eq_false', Int.not_le, Int.not_lt, bne_eq_false_iff_eq] at hc)))
  refine SeqQ.nil (hK _ ?_)
  clear hK hT
  refine wpListH.cons rfl (fun K' hK' => ?_)
  go_simp
  refine hK' _ _ (by repeat (first | with_reducible assumption | with_reducible apply Keeps.drew | with_reducible apply Keeps.alloc)) (fun hS => ?_)
  clear hK' hS
  refine wpListH.cons rfl (fun K' hK' => ?_)
  go_simp
  refine hK' _ _ (by repeat (first | with_reducible assumption | with_reducible apply Keeps.drew | with_reducible apply Keeps.alloc)) (fun hS => ?_)
  clear hK' hS
  refine wpListH.cons rfl (fun K' hK' => ?_)
  go_simp
  refine hK' _ _ (by repeat (first | with_reducible assumption | with_reducible apply Keeps.drew | with_reducible apply Keeps.alloc)) (fun hS => ?_)
  clear hK' hS
  refine wpListH.nil ?_
  refine abs_at (fun w' => Keeps (w1.heap.size + 1) ([(⟨w1.heap.size, 0, none⟩, .int .i64 0), (⟨w1.heap.size, 1, none⟩, .bool false), (⟨w1.heap.size, 2, none⟩, .int .i64 0), (⟨w1.heap.size, 3, none⟩, .int .i64 0)] ++ [(⟨w.heap.size, 0, none⟩, .int .i64 0), (⟨w.heap.size, 1, none⟩, .bool false), (⟨w.heap.size, 2, none⟩, .int .i64 0), (⟨w.heap.size, 3, none⟩, .int .i64 0), (⟨w.heap.size + 1, 0, none⟩, .int .i64 k), (⟨w.heap.size + 1, 1, none⟩, .int .i64 2), (⟨w.heap.size + 2, 0, none⟩, .int .i64 0), (⟨w.heap.size + 2, 1, none⟩, .bool false), (⟨w.heap.size + 2, 2, none⟩, .int .i64 0), (⟨w.heap.size + 2, 3, none⟩, .int .i64 0)]) w w') (Keeps.more (B := w.heap.size + 3) (L := [(⟨w.heap.size, 0, none⟩, .int .i64 0), (⟨w.heap.size, 1, none⟩, .bool false), (⟨w.heap.size, 2, none⟩, .int .i64 0), (⟨w.heap.size, 3, none⟩, .int .i64 0), (⟨w.heap.size + 1, 0, none⟩, .int .i64 k), (⟨w.heap.size + 1, 1, none⟩, .int .i64 2), (⟨w.heap.size + 2, 0, none⟩, .int .i64 0), (⟨w.heap.size + 2, 1, none⟩, .bool false), (⟨w.heap.size + 2, 2, none⟩, .int .i64 0), (⟨w.heap.size + 2, 3, none⟩, .int .i64 0)]) (by repeat (first | with_reducible assumption | with_reducible apply Keeps.drew | with_reducible apply Keeps.alloc)) (by omega) (by simp) (by simp [List.forall_mem_cons]) (by simp [cellsAre_cons, cellsAre_nil, go_sem])) ?_
  intro w2 hk2
  clear hk h1 h3 h4
  generalize w1.heap.size = b at *
  simp only [List.cons_append, List.nil_append] at hk2
  have hB := h2
  clear h2
  obtain ⟨h1, h2, h3, h4⟩ := id hk2
  simp only [cellsAre_cons, cellsAre_nil, and_true] at h4
  have n0 : ¬ w.heap.size = b := by omega
  have n1 : ¬ w.heap.size + 1 = b := by omega
  have n2 : ¬ w.heap.size + 1 + 1 = b := by omega
  have n2' : ¬ w.heap.size + 2 = b := by omega
  have m0 : ¬ b = w.heap.size := by omega
  have m1 : ¬ b = w.heap.size + 1 := by omega
  have m2 : ¬ b = w.heap.size + 1 + 1 := by omega
  have m2' : ¬ b = w.heap.size + 2 := by omega
  go_wp2_with (go_at_call 39; refine (of_2 _).mono ?_; rintro e w' ⟨rfl, rfl⟩)
  all_goals
    apply ret_of
    · simp only [results, Try.results22]
      go_simp
      with_reducible rfl
    refine ⟨rfl, ?_⟩
    refine ⟨ret_st (p := ⟨_, _, _, _⟩) ?_, by (repeat (first | with_reducible apply Below.drew | with_reducible refine Below.setCell ?_ (by first | exact Nat.le_refl _ | (simp; done) | (simp; omega) | omega) _ | with_reducible refine Below.alloc ?_ (by first | exact Nat.le_refl _ | (simp; done) | (simp; omega) | omega) _ | with_reducible exact Below.refl _ _ | with_reducible assumption))⟩
    rw [HA.out]
    clear HA h1 h2 h3 h4 hk2 hm n0 n1 n2 n2' m0 m1 m2 m2' hB
    (try simp only [beq_iff_eq, decide_eq_true_eq, beq_eq_false_iff_ne, decide_eq_false_iff_not, bne_iff_ne, ne_eq, Bool.not_eq_true', Bool.not_eq_false', Int.not_le, Int.not_lt, not_false_eq_true, bne_eq_false_iff_eq] at *)
    (repeat' split) <;> first | rfl | (exfalso; omega) | (congr 1 <;> omega)

set_option maxHeartbeats 2000000 in
theorem apply_0_3 (k : Int) (w : World) :
    Calls Try.prog 22 #[.agg #[.int .i64 0, .bool false, .int .i64 0, .int .i64 0], .agg #[.int .i64 k, .int .i64 3]] w fun e w' =>
      e = .returned (.agg #[.int .i64 (applyS ⟨0, false, 0, 0⟩ ⟨k, 3⟩).tag, .bool (applyS ⟨0, false, 0, 0⟩ ⟨k, 3⟩).closed, .int .i64 (applyS ⟨0, false, 0, 0⟩ ⟨k, 3⟩).sum, .int .i64 (applyS ⟨0, false, 0, 0⟩ ⟨k, 3⟩).ver]) ∧ Below w.heap.size w w' := by
  have hap := applyS_0 k 3
  generalize applyS ⟨0, false, 0, 0⟩ ⟨k, 3⟩ = ap at hap ⊢
  have HA := Lib.hid hap
  clear hap
  have hm : mayS ⟨0, false, 0, 0⟩ = true := by simp [mayS]
  go_enter Try.func22, Try.ntmps22
  go_wp2_with fail
  refine (may_any _ _ _ _ _).mono ?_
  rintro e w1 ⟨rfl, hb⟩
  have hk : Keeps (w.heap.size + 3) [(⟨w.heap.size, 0, none⟩, .int .i64 0), (⟨w.heap.size, 1, none⟩, .bool false), (⟨w.heap.size, 2, none⟩, .int .i64 0), (⟨w.heap.size, 3, none⟩, .int .i64 0), (⟨w.heap.size + 1, 0, none⟩, .int .i64 k), (⟨w.heap.size + 1, 1, none⟩, .int .i64 3), (⟨w.heap.size + 2, 0, none⟩, .int .i64 0), (⟨w.heap.size + 2, 1, none⟩, .bool false), (⟨w.heap.size + 2, 2, none⟩, .int .i64 0), (⟨w.heap.size + 2, 3, none⟩, .int .i64 0)] w w1 := by
    refine Keeps.below ⟨?_, by simp, by simp [List.forall_mem_cons], by simp [cellsAre_cons, cellsAre_nil, go_sem, World.cell?_alloc_past]⟩ hb
    (repeat (first | with_reducible apply Below.drew | with_reducible refine Below.setCell ?_ (by first | exact Nat.le_refl _ | (simp; done) | (simp; omega) | omega) _ | with_reducible refine Below.alloc ?_ (by first | exact Nat.le_refl _ | (simp; done) | (simp; omega) | omega) _ | with_reducible exact Below.refl _ _ | with_reducible assumption))
  clear hb
  have hk' := hk
  obtain ⟨h1, h2, h3, h4⟩ := hk'
  simp only [cellsAre_cons, cellsAre_nil, and_true] at h4
  go_wp2_with fail
  refine wp_region_q 4 3 (fun w' => Keeps (w.heap.size + 3) [(⟨w.heap.size, 0, none⟩, .int .i64 0), (⟨w.heap.size, 1, none⟩, .bool false), (⟨w.heap.size, 2, none⟩, .int .i64 0), (⟨w.heap.size, 3, none⟩, .int .i64 0), (⟨w.heap.size + 1, 0, none⟩, .int .i64 k), (⟨w.heap.size + 1, 1, none⟩, .int .i64 3), (⟨w.heap.size + 2, 0, none⟩, .int .i64 0), (⟨w.heap.size + 2, 1, none⟩, .bool false), (⟨w.heap.size + 2, 2, none⟩, .int .i64 0), (⟨w.heap.size + 2, 3, none⟩, .int .i64 0)] w w') (by kernel_rfl) (by kernel_rfl) (by kernel_rfl) (by kernel_rfl) (by kernel_rfl) (by apply Keeps.drew; assumption) rfl ?_
  intro K T hK hT
  simp only [List.map, List.take, List.drop] at hK ⊢
  go_wp2_with (first
    | (apply SeqQ.skip; rfl; simp only [Act.put, List.setIfInBounds_toArray, List.set_cons_zero, List.set_cons_succ])
    | (apply SeqQ.call; rfl; rfl; (intro w hw; obtain ⟨h1, h2, h3, h4⟩ := hT _ hw; simp only [cellsAre_cons, cellsAre_nil, and_true] at h4; go_simp; exact ⟨rfl, rfl⟩); (intro w hw; obtain ⟨h1, h2, h3, h4⟩ := hT _ hw; simp only [cellsAre_cons, cellsAre_nil, and_true] at h4; (first | (go_at_call 39; refine (of_none _ _ (by omega)).mono ?_; rintro e w' ⟨rfl, rfl⟩; exact ⟨rfl, rfl⟩))); simp only [Act.put, List.setIfInBounds_toArray, List.set_cons_zero, List.set_cons_succ])
    | (apply SeqQ.pure; rfl; (intro w hw; obtain ⟨h1, h2, h3, h4⟩ := hT _ hw; simp only [cellsAre_cons, cellsAre_nil, and_true] at h4; go_simp; with_reducible rfl); simp only [Act.put, List.setIfInBounds_toArray, List.set_cons_zero, List.set_cons_succ])
    | (apply SeqQ.split; rfl; rfl; all_goals (intro hc; simp only [hc]; try simp only [beq_iff_eq, decide_eq_true_eq, beq_eq_false_iff_ne, decide_eq_false_iff_not, bne_iff_ne, ne_eq, Bool.not_eq_true', Bool.not_eq_false', Int.not_le, Int.not_lt, bne_eq_false_iff_eq] at hc)))
  refine SeqQ.nil (hK _ ?_)
  clear hK hT
  refine wpListH.cons rfl (fun K' hK' => ?_)
  go_simp
  refine hK' _ _ (by repeat (first | with_reducible assumption | with_reducible apply Keeps.drew | with_reducible apply Keeps.alloc)) (fun hS => ?_)
  clear hK' hS
  refine wpListH.cons rfl (fun K' hK' => ?_)
  go_simp
  refine hK' _ _ (by repeat (first | with_reducible assumption | with_reducible apply Keeps.drew | with_reducible apply Keeps.alloc)) (fun hS => ?_)
  clear hK' hS
  refine wpListH.cons rfl (fun K' hK' => ?_)
  go_simp
  refine hK' _ _ (by repeat (first | with_reducible assumption | with_reducible apply Keeps.drew | with_reducible apply Keeps.alloc)) (fun hS => ?_)
  clear hK' hS
  refine wpListH.nil ?_
  refine abs_at (fun w' => Keeps (w1.heap.size + 1) ([(⟨w1.heap.size, 0, none⟩, .int .i64 0), (⟨w1.heap.size, 1, none⟩, .bool false), (⟨w1.heap.size, 2, none⟩, .int .i64 0), (⟨w1.heap.size, 3, none⟩, .int .i64 0)] ++ [(⟨w.heap.size, 0, none⟩, .int .i64 0), (⟨w.heap.size, 1, none⟩, .bool false), (⟨w.heap.size, 2, none⟩, .int .i64 0), (⟨w.heap.size, 3, none⟩, .int .i64 0), (⟨w.heap.size + 1, 0, none⟩, .int .i64 k), (⟨w.heap.size + 1, 1, none⟩, .int .i64 3), (⟨w.heap.size + 2, 0, none⟩, .int .i64 0), (⟨w.heap.size + 2, 1, none⟩, .bool false), (⟨w.heap.size + 2, 2, none⟩, .int .i64 0), (⟨w.heap.size + 2, 3, none⟩, .int .i64 0)]) w w') (Keeps.more (B := w.heap.size + 3) (L := [(⟨w.heap.size, 0, none⟩, .int .i64 0), (⟨w.heap.size, 1, none⟩, .bool false), (⟨w.heap.size, 2, none⟩, .int .i64 0), (⟨w.heap.size, 3, none⟩, .int .i64 0), (⟨w.heap.size + 1, 0, none⟩, .int .i64 k), (⟨w.heap.size + 1, 1, none⟩, .int .i64 3), (⟨w.heap.size + 2, 0, none⟩, .int .i64 0), (⟨w.heap.size + 2, 1, none⟩, .bool false), (⟨w.heap.size + 2, 2, none⟩, .int .i64 0), (⟨w.heap.size + 2, 3, none⟩, .int .i64 0)]) (by repeat (first | with_reducible assumption | with_reducible apply Keeps.drew | with_reducible apply Keeps.alloc)) (by omega) (by simp) (by simp [List.forall_mem_cons]) (by simp [cellsAre_cons, cellsAre_nil, go_sem])) ?_
  intro w2 hk2
  clear hk h1 h3 h4
  generalize w1.heap.size = b at *
  simp only [List.cons_append, List.nil_append] at hk2
  have hB := h2
  clear h2
  obtain ⟨h1, h2, h3, h4⟩ := id hk2
  simp only [cellsAre_cons, cellsAre_nil, and_true] at h4
  have n0 : ¬ w.heap.size = b := by omega
  have n1 : ¬ w.heap.size + 1 = b := by omega
  have n2 : ¬ w.heap.size + 1 + 1 = b := by omega
  have n2' : ¬ w.heap.size + 2 = b := by omega
  have m0 : ¬ b = w.heap.size := by omega
  have m1 : ¬ b = w.heap.size + 1 := by omega
  have m2 : ¬ b = w.heap.size + 1 + 1 := by omega
  have m2' : ¬ b = w.heap.size + 2 := by omega
  go_wp2_with (go_at_call 39; refine (of_3 _).mono ?_; rintro e w' ⟨rfl, rfl⟩)
  all_goals
    apply ret_of
    · simp only [results, Try.results22]
      go_simp
      with_reducible rfl
    refine ⟨rfl, ?_⟩
    refine ⟨ret_st (p := ⟨_, _, _, _⟩) ?_, by (repeat (first | with_reducible apply Below.drew | with_reducible refine Below.setCell ?_ (by first | exact Nat.le_refl _ | (simp; done) | (simp; omega) | omega) _ | with_reducible refine Below.alloc ?_ (by first | exact Nat.le_refl _ | (simp; done) | (simp; omega) | omega) _ | with_reducible exact Below.refl _ _ | with_reducible assumption))⟩
    rw [HA.out]
    clear HA h1 h2 h3 h4 hk2 hm n0 n1 n2 n2' m0 m1 m2 m2' hB
    (try simp only [beq_iff_eq, decide_eq_true_eq, beq_eq_false_iff_ne, decide_eq_false_iff_not, bne_iff_ne, ne_eq, Bool.not_eq_true', Bool.not_eq_false', Int.not_le, Int.not_lt, not_false_eq_true, bne_eq_false_iff_eq] at *)
    (repeat' split) <;> first | rfl | (exfalso; omega) | (congr 1 <;> omega)

theorem apply_any (t s v k a : Int) (c : Bool) (w : World) :
    Calls Try.prog 22 #[.agg #[.int .i64 t, .bool c, .int .i64 s, .int .i64 v], .agg #[.int .i64 k, .int .i64 a]] w fun e w' =>
      e = .returned (.agg #[.int .i64 (applyS ⟨t, c, s, v⟩ ⟨k, a⟩).tag, .bool (applyS ⟨t, c, s, v⟩ ⟨k, a⟩).closed, .int .i64 (applyS ⟨t, c, s, v⟩ ⟨k, a⟩).sum, .int .i64 (applyS ⟨t, c, s, v⟩ ⟨k, a⟩).ver]) ∧ Below w.heap.size w w' := by
  by_cases h : mayS ⟨t, c, s, v⟩ = false ∨ c = true ∨ v = 1099511627776
  · rw [applyS_same h]
    exact apply_same t s v k a c w h
  · have hm : mayS ⟨t, c, s, v⟩ = true := by
      cases hx : mayS ⟨t, c, s, v⟩
      · exact absurd (.inl hx) h
      · rfl
    obtain rfl : c = false := by
      cases c
      · rfl
      · exact absurd (.inr (.inl rfl)) h
    have hv : v ≠ 1099511627776 := fun e => h (.inr (.inr e))
    by_cases h1 : t = 1
    · subst h1; exact apply_1 s v k a w hm hv
    by_cases h2 : t = 2
    · subst h2; exact apply_2 s v k a w hm hv
    by_cases h3 : t = 3
    · subst h3; exact apply_3 s v k a w hm hv
    have h0 := hm
    rw [mayS_zero (by show t < 1 ∨ 3 < t; simp [mayS] at hm; omega)] at h0
    simp at h0
    obtain ⟨rfl, rfl, rfl⟩ := h0
    by_cases ha : a < 1 ∨ 3 < a
    · exact apply_0_n k a ha w
    by_cases a1 : a = 1
    · subst a1; exact apply_0_1 k w
    by_cases a2 : a = 2
    · subst a2; exact apply_0_2 k w
    obtain rfl : a = 3 := by omega
    exact apply_0_3 k w
end Go.Proofs.Ytifeokabecgimaa
