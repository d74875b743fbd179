/-
  The walk over 'deeds.Apply', at the tag 1.
-/
import Derived.Test.YtifeokabecgimaaProg
import Derived.Test.YtifeokabecgimaaSeq
import Derived.WalkKit
import Derived.WalkSpells
import Derived.WalkLawsBesides
import Derived.RowKit3
import Derived.Lib.Hide
import Derived.Test.YtifeokabecgimaaApply
set_option linter.unusedSimpArgs false
set_option linter.unusedVariables false
set_option maxRecDepth 100000
namespace Go.Proofs.Ytifeokabecgimaa
open Go.RowKit Go.Sq Go.Arch

set_option maxHeartbeats 2000000 in
theorem apply_1 (s v k a : Int) (w : World) (hm : mayS ⟨1, false, s, v⟩ = true) (hv : v ≠ 1099511627776) :
    Calls Try.prog 22 #[.agg #[.int .i64 1, .bool false, .int .i64 s, .int .i64 v], .agg #[.int .i64 k, .int .i64 a]] w fun e w' =>
      e = .returned (.agg #[.int .i64 (applyS ⟨1, false, s, v⟩ ⟨k, a⟩).tag, .bool (applyS ⟨1, false, s, v⟩ ⟨k, a⟩).closed, .int .i64 (applyS ⟨1, false, s, v⟩ ⟨k, a⟩).sum, .int .i64 (applyS ⟨1, false, s, v⟩ ⟨k, a⟩).ver]) ∧ Below w.heap.size w w' := by
  have hb := hm
  rw [mayS_some (by simp)] at hb
  simp [leastS] at hb
  obtain ⟨b1, b2, b3, b4⟩ := hb
  have hv' : (v == 1099511627776) = false := by simpa using hv
  have hap := applyS_1 s v k a hm hv
  clear hv
  generalize applyS ⟨1, false, s, v⟩ ⟨k, a⟩ = ap at hap ⊢
  have HA := Lib.hid hap
  clear hap
  go_enter Try.func22, Try.ntmps22
  go_wp2_with fail
  refine (may_any _ _ _ _ _).mono ?_
  rintro e w1 ⟨rfl, hb⟩
  have hk : Keeps (w.heap.size + 3) [(⟨w.heap.size, 0, none⟩, .int .i64 1), (⟨w.heap.size, 1, none⟩, .bool false), (⟨w.heap.size, 2, none⟩, .int .i64 s), (⟨w.heap.size, 3, none⟩, .int .i64 v), (⟨w.heap.size + 1, 0, none⟩, .int .i64 k), (⟨w.heap.size + 1, 1, none⟩, .int .i64 a), (⟨w.heap.size + 2, 0, none⟩, .int .i64 0), (⟨w.heap.size + 2, 1, none⟩, .bool false), (⟨w.heap.size + 2, 2, none⟩, .int .i64 0), (⟨w.heap.size + 2, 3, none⟩, .int .i64 0)] w w1 := by
    refine Keeps.below ⟨?_, by simp, by simp [List.forall_mem_cons], by simp [cellsAre_cons, cellsAre_nil, go_sem, World.cell?_alloc_past]⟩ hb
    (repeat (first | with_reducible apply Below.drew | with_reducible refine Below.setCell ?_ (by first | exact Nat.le_refl _ | (simp; done) | (simp; omega) | omega) _ | with_reducible refine Below.alloc ?_ (by first | exact Nat.le_refl _ | (simp; done) | (simp; omega) | omega) _ | with_reducible exact Below.refl _ _ | with_reducible assumption))
  clear hb
  have hk' := hk
  obtain ⟨h1, h2, h3, h4⟩ := hk'
  simp only [cellsAre_cons, cellsAre_nil, and_true] at h4
  go_wp2_with fail
  refine wp_region_q 4 3 (fun w' => Keeps (w.heap.size + 3) [(⟨w.heap.size, 0, none⟩, .int .i64 1), (⟨w.heap.size, 1, none⟩, .bool false), (⟨w.heap.size, 2, none⟩, .int .i64 s), (⟨w.heap.size, 3, none⟩, .int .i64 v), (⟨w.heap.size + 1, 0, none⟩, .int .i64 k), (⟨w.heap.size + 1, 1, none⟩, .int .i64 a), (⟨w.heap.size + 2, 0, none⟩, .int .i64 0), (⟨w.heap.size + 2, 1, none⟩, .bool false), (⟨w.heap.size + 2, 2, none⟩, .int .i64 0), (⟨w.heap.size + 2, 3, none⟩, .int .i64 0)] w w') (by kernel_rfl) (by kernel_rfl) (by kernel_rfl) (by kernel_rfl) (by kernel_rfl) (by apply Keeps.drew; assumption) rfl ?_
  intro K T hK hT
  simp only [List.map, List.take, List.drop] at hK ⊢
  go_wp2_with (first
    | (apply SeqQ.skip; rfl; simp only [Act.put, List.setIfInBounds_toArray, List.set_cons_zero, List.set_cons_succ])
    | (apply SeqQ.call; rfl; rfl; (intro w hw; obtain ⟨h1, h2, h3, h4⟩ := hT _ hw; simp only [cellsAre_cons, cellsAre_nil, and_true] at h4; go_simp; exact ⟨rfl, rfl⟩); (intro w hw; obtain ⟨h1, h2, h3, h4⟩ := hT _ hw; simp only [cellsAre_cons, cellsAre_nil, and_true] at h4; (first | (go_at_call 39; refine (of_1 _).mono ?_; rintro e w' ⟨rfl, rfl⟩; exact ⟨rfl, rfl⟩))); simp only [Act.put, List.setIfInBounds_toArray, List.set_cons_zero, List.set_cons_succ])
    | (apply SeqQ.pure; rfl; (intro w hw; obtain ⟨h1, h2, h3, h4⟩ := hT _ hw; simp only [cellsAre_cons, cellsAre_nil, and_true] at h4; go_simp; with_reducible rfl); simp only [Act.put, List.setIfInBounds_toArray, List.set_cons_zero, List.set_cons_succ])
    | (apply SeqQ.split; rfl; rfl; all_goals (intro hc; simp only [hc]; try simp only [beq_iff_eq, decide_eq_true_eq, beq_eq_false_iff_ne, decide_eq_false_iff_not, bne_iff_ne, ne_eq, Bool.not_eq_true', Bool.not_eq_false', Int.not_le, Int.not_lt, bne_eq_false_iff_eq] at hc)))
  refine SeqQ.nil (hK _ ?_)
  clear hK hT
  refine wpListH.cons rfl (fun K' hK' => ?_)
  go_simp
  refine hK' _ _ (by repeat (first | with_reducible assumption | with_reducible apply Keeps.drew | with_reducible apply Keeps.alloc)) (fun hS => ?_)
  clear hK' hS
  refine wpListH.cons rfl (fun K' hK' => ?_)
  go_simp
  refine hK' _ _ (by repeat (first | with_reducible assumption | with_reducible apply Keeps.drew | with_reducible apply Keeps.alloc)) (fun hS => ?_)
  clear hK' hS
  refine wpListH.cons rfl (fun K' hK' => ?_)
  go_simp
  refine hK' _ _ (by repeat (first | with_reducible assumption | with_reducible apply Keeps.drew | with_reducible apply Keeps.alloc)) (fun hS => ?_)
  clear hK' hS
  refine wpListH.nil ?_
  refine abs_at (fun w' => Keeps (w1.heap.size + 1) ([(⟨w1.heap.size, 0, none⟩, .int .i64 1), (⟨w1.heap.size, 1, none⟩, .bool false), (⟨w1.heap.size, 2, none⟩, .int .i64 s), (⟨w1.heap.size, 3, none⟩, .int .i64 v)] ++ [(⟨w.heap.size, 0, none⟩, .int .i64 1), (⟨w.heap.size, 1, none⟩, .bool false), (⟨w.heap.size, 2, none⟩, .int .i64 s), (⟨w.heap.size, 3, none⟩, .int .i64 v), (⟨w.heap.size + 1, 0, none⟩, .int .i64 k), (⟨w.heap.size + 1, 1, none⟩, .int .i64 a), (⟨w.heap.size + 2, 0, none⟩, .int .i64 0), (⟨w.heap.size + 2, 1, none⟩, .bool false), (⟨w.heap.size + 2, 2, none⟩, .int .i64 0), (⟨w.heap.size + 2, 3, none⟩, .int .i64 0)]) w w') (Keeps.more (B := w.heap.size + 3) (L := [(⟨w.heap.size, 0, none⟩, .int .i64 1), (⟨w.heap.size, 1, none⟩, .bool false), (⟨w.heap.size, 2, none⟩, .int .i64 s), (⟨w.heap.size, 3, none⟩, .int .i64 v), (⟨w.heap.size + 1, 0, none⟩, .int .i64 k), (⟨w.heap.size + 1, 1, none⟩, .int .i64 a), (⟨w.heap.size + 2, 0, none⟩, .int .i64 0), (⟨w.heap.size + 2, 1, none⟩, .bool false), (⟨w.heap.size + 2, 2, none⟩, .int .i64 0), (⟨w.heap.size + 2, 3, none⟩, .int .i64 0)]) (by repeat (first | with_reducible assumption | with_reducible apply Keeps.drew | with_reducible apply Keeps.alloc)) (by omega) (by simp) (by simp [List.forall_mem_cons]) (by simp [cellsAre_cons, cellsAre_nil, go_sem])) ?_
  intro w2 hk2
  clear hk h1 h3 h4
  generalize w1.heap.size = b at *
  simp only [List.cons_append, List.nil_append] at hk2
  have hB := h2
  clear h2
  obtain ⟨h1, h2, h3, h4⟩ := id hk2
  simp only [cellsAre_cons, cellsAre_nil, and_true] at h4
  have n0 : ¬ w.heap.size = b := by omega
  have n1 : ¬ w.heap.size + 1 = b := by omega
  have n2 : ¬ w.heap.size + 1 + 1 = b := by omega
  have n2' : ¬ w.heap.size + 2 = b := by omega
  have m0 : ¬ b = w.heap.size := by omega
  have m1 : ¬ b = w.heap.size + 1 := by omega
  have m2 : ¬ b = w.heap.size + 1 + 1 := by omega
  have m2' : ¬ b = w.heap.size + 2 := by omega
  have hmt := taken_1
  go_wp2_with fail
  · apply ret_of
    · simp only [results, Try.results22]
      go_simp
      with_reducible rfl
    refine ⟨rfl, ?_⟩
    refine ⟨ret_st (p := ⟨_, _, _, _⟩) ?_, by (repeat (first | with_reducible apply Below.drew | with_reducible refine Below.setCell ?_ (by first | exact Nat.le_refl _ | (simp; done) | (simp; omega) | omega) _ | with_reducible refine Below.alloc ?_ (by first | exact Nat.le_refl _ | (simp; done) | (simp; omega) | omega) _ | with_reducible exact Below.refl _ _ | with_reducible assumption))⟩
    rw [HA.out]
    clear HA h1 h2 h3 h4 hk2 hm hmt n0 n1 n2 n2' m0 m1 m2 m2' hB
    (try simp only [beq_iff_eq, decide_eq_true_eq, beq_eq_false_iff_ne, decide_eq_false_iff_not, bne_iff_ne, ne_eq, Bool.not_eq_true', Bool.not_eq_false', Int.not_le, Int.not_lt, not_false_eq_true, bne_eq_false_iff_eq] at *)
    (repeat' split) <;> first | rfl | (exfalso; omega) | (congr 1 <;> omega)
  all_goals
    refine wp_region_all (fun w' => Keeps (b + 1) [(⟨b, 0, none⟩, .int .i64 1), (⟨b, 1, none⟩, .bool false), (⟨b, 2, none⟩, .int .i64 s), (⟨b, 3, none⟩, .int .i64 v), (⟨w.heap.size, 0, none⟩, .int .i64 1), (⟨w.heap.size, 1, none⟩, .bool false), (⟨w.heap.size, 2, none⟩, .int .i64 s), (⟨w.heap.size, 3, none⟩, .int .i64 (v + 1)), (⟨w.heap.size + 1, 0, none⟩, .int .i64 k), (⟨w.heap.size + 1, 1, none⟩, .int .i64 a), (⟨w.heap.size + 2, 0, none⟩, .int .i64 0), (⟨w.heap.size + 2, 1, none⟩, .bool false), (⟨w.heap.size + 2, 2, none⟩, .int .i64 0), (⟨w.heap.size + 2, 3, none⟩, .int .i64 0)] w w') (by kernel_rfl) (by kernel_rfl) ?_ rfl ?_
    · refine ⟨?_, (by simp; omega), by simp [List.forall_mem_cons]; omega, by simp [cellsAre_cons, cellsAre_nil, go_sem, *]⟩
      (repeat (first | with_reducible apply Below.drew | with_reducible refine Below.setCell ?_ (by first | exact Nat.le_refl _ | (simp; done) | (simp; omega) | omega) _ | with_reducible refine Below.alloc ?_ (by first | exact Nat.le_refl _ | (simp; done) | (simp; omega) | omega) _ | with_reducible exact Below.refl _ _ | with_reducible assumption))
    intro K T hK hT hT'
    simp only [List.map] at hK ⊢
    go_wp2_with (first
      | (apply SeqD.skip; rfl; simp only [Act.put, List.setIfInBounds_toArray, List.set_cons_zero, List.set_cons_succ])
      | (apply SeqD.call; rfl; rfl; (intro w hw; obtain ⟨h1, h2, h3, h4⟩ := hT _ hw; simp only [cellsAre_cons, cellsAre_nil, and_true] at h4; go_simp; exact ⟨rfl, rfl⟩); (intro w hw; obtain ⟨h1, h2, h3, h4⟩ := hT _ hw; simp only [cellsAre_cons, cellsAre_nil, and_true] at h4; (first | (go_at_call 68; refine (count_taken _ ⟨b1, b2⟩ _).mono ?_; rintro e w' ⟨rfl, hb⟩; exact ⟨rfl, hT' _ ((hT _ hw).below hb)⟩))); simp only [Act.put, List.setIfInBounds_toArray, List.set_cons_zero, List.set_cons_succ])
      | (apply SeqD.pure; rfl; (intro w hw; obtain ⟨h1, h2, h3, h4⟩ := hT _ hw; simp only [cellsAre_cons, cellsAre_nil, and_true] at h4; go_simp; with_reducible rfl); simp only [Act.put, List.setIfInBounds_toArray, List.set_cons_zero, List.set_cons_succ])
      | (apply SeqD.split; rfl; rfl; all_goals (intro hc; simp only [hc]; try simp only [beq_iff_eq, decide_eq_true_eq, beq_eq_false_iff_ne, decide_eq_false_iff_not, bne_iff_ne, ne_eq, Bool.not_eq_true', Bool.not_eq_false', Int.not_le, Int.not_lt, bne_eq_false_iff_eq] at hc)))
    all_goals (apply SeqD.nil; refine hK _ ?_; clear h1 h2 h3 h4; intro w hw; obtain ⟨h1, h2, h3, h4⟩ := hw; simp only [cellsAre_cons, cellsAre_nil, and_true] at h4; clear hT hT' hK)
  all_goals go_wp2
  all_goals
    apply ret_of
    · simp only [results, Try.results22]
      go_simp
      with_reducible rfl
    refine ⟨rfl, ?_⟩
    refine ⟨ret_st (p := ⟨_, _, _, _⟩) ?_, by (repeat (first | with_reducible apply Below.drew | with_reducible refine Below.setCell ?_ (by first | exact Nat.le_refl _ | (simp; done) | (simp; omega) | omega) _ | with_reducible refine Below.alloc ?_ (by first | exact Nat.le_refl _ | (simp; done) | (simp; omega) | omega) _ | with_reducible exact Below.refl _ _ | with_reducible assumption))⟩
    rw [HA.out]
    clear HA h1 h2 h3 h4 hk2 hm hmt n0 n1 n2 n2' m0 m1 m2 m2' hB
    (try simp only [beq_iff_eq, decide_eq_true_eq, beq_eq_false_iff_ne, decide_eq_false_iff_not, bne_iff_ne, ne_eq, Bool.not_eq_true', Bool.not_eq_false', Int.not_le, Int.not_lt, not_false_eq_true, bne_eq_false_iff_eq] at *)
    (repeat' split) <;> first | rfl | (exfalso; omega) | (congr 1 <;> omega)
end Go.Proofs.Ytifeokabecgimaa
