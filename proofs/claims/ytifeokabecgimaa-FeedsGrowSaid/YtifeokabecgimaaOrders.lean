/-
  The walks over 'orders.fields' and 'orders.Check'.
-/
import Derived.Test.YtifeokabecgimaaProg
import Derived.Test.YtifeokabecgimaaSeq
import Derived.WalkKit
import Derived.WalkSpells
import Derived.WalkLawsBesides
import Derived.RowKit3
import Derived.Lib.Hide
import Derived.Test.YtifeokabecgimaaDeedsSpec
set_option linter.unusedSimpArgs false
set_option linter.unusedVariables false
set_option maxRecDepth 100000
namespace Go.Proofs.Ytifeokabecgimaa
open Go.RowKit Go.Sq Go.Arch

set_option maxHeartbeats 1000000 in
theorem fields_any (b : Nat) (w : World) :
    Calls Try.prog 49 #[.pointer (some ⟨b, 0, none⟩)] w fun e w' => e = .returned (.slice (some ⟨w.heap.size, 0, none⟩) 5 5) ∧
      w' = (w.alloc (.cells #[.pointer (some ⟨b, 0, none⟩), .int .i64 1, .int .i64 2147483647, .pointer (some ⟨b, 1, none⟩), .int .i64 0, .int .i64 3,
        .pointer (some ⟨b, 2, none⟩), .int .i64 (-1), .int .i64 2147483647, .pointer (some ⟨b, 3, none⟩), .int .i64 1, .int .i64 4,
        .pointer (some ⟨b, 4, none⟩), .int .i64 (-1048576), .int .i64 1048576] 110)).drew := by
  go_enter Try.func49, Try.ntmps49
  go_wp2_with fail
  refine wp_region_q 20 2 (fun _ => True) (by kernel_rfl) (by kernel_rfl) (by kernel_rfl) (by kernel_rfl) (by kernel_rfl) trivial rfl ?_
  intro K T hK hT
  simp only [List.map, List.take, List.drop] at hK ⊢
  go_wp2_with (apply SeqQ.pure; rfl; (intro w hw; go_simp; with_reducible rfl); simp only [Act.put, List.setIfInBounds_toArray, List.set_cons_zero, List.set_cons_succ])
  refine SeqQ.nil (hK _ ?_)
  clear hK hT
  refine wpListH.cons rfl (fun K' hK' => ?_)
  go_simp
  refine hK' _ _ trivial (fun _ => ?_)
  clear hK'
  refine wpListH.cons rfl (fun K' hK' => ?_)
  go_simp
  refine hK' _ _ trivial (fun _ => ?_)
  clear hK'
  refine wpListH.nil ?_
  go_wp2_with fail
  go_ret
  exact ⟨rfl, rfl⟩

set_option maxHeartbeats 4000000 in
theorem check_any (x0 x1 x2 x3 x4 : Int) (w : World) :
    Calls Try.prog 40 #[.agg #[.int .i64 x0, .int .i64 x1, .int .i64 x2, .int .i64 x3, .int .i64 x4]] w fun e w' =>
      e = .returned (.int .i64 (errOf (ordOk ⟨x0, x1, x2, x3, x4⟩))) ∧ Below w.heap.size w w' := by
  have ho : ordOk ⟨x0, x1, x2, x3, x4⟩ = decide (1 ≤ x0 ∧ x0 ≤ 2147483647 ∧ 0 ≤ x1 ∧ x1 ≤ 3 ∧ -1 ≤ x2 ∧ x2 ≤ 2147483647 ∧ 1 ≤ x3 ∧ x3 ≤ 4 ∧ -1048576 ≤ x4 ∧ x4 ≤ 1048576) := rfl
  generalize ordOk ⟨x0, x1, x2, x3, x4⟩ = m at ho ⊢
  have HO := Lib.hid ho
  clear ho
  go_enter Try.func40, Try.ntmps40
  go_wp2_with (go_at_call 49; refine (fields_any _ _).mono ?_; rintro e w' ⟨rfl, rfl⟩)
  go_loopw [7] (fun i wr => ∃ k : Nat, k ≤ 5 ∧ i = .int .i64 k ∧ ((0 < k → 1 ≤ x0 ∧ x0 ≤ 2147483647) ∧ (1 < k → 0 ≤ x1 ∧ x1 ≤ 3) ∧ (2 < k → -1 ≤ x2 ∧ x2 ≤ 2147483647) ∧ (3 < k → 1 ≤ x3 ∧ x3 ≤ 4) ∧ (4 < k → -1048576 ≤ x4 ∧ x4 ≤ 1048576)) ∧
      Keeps (w.heap.size + 2) [(⟨w.heap.size, 0, none⟩, .int .i64 x0), (⟨w.heap.size, 1, none⟩, .int .i64 x1), (⟨w.heap.size, 2, none⟩, .int .i64 x2), (⟨w.heap.size, 3, none⟩, .int .i64 x3), (⟨w.heap.size, 4, none⟩, .int .i64 x4), (⟨w.heap.size + 1, 0, none⟩, .pointer (some ⟨w.heap.size, 0, none⟩)), (⟨w.heap.size + 1, 1, none⟩, .int .i64 1), (⟨w.heap.size + 1, 2, none⟩, .int .i64 2147483647), (⟨w.heap.size + 1, 3, none⟩, .pointer (some ⟨w.heap.size, 1, none⟩)), (⟨w.heap.size + 1, 4, none⟩, .int .i64 0), (⟨w.heap.size + 1, 5, none⟩, .int .i64 3), (⟨w.heap.size + 1, 6, none⟩, .pointer (some ⟨w.heap.size, 2, none⟩)), (⟨w.heap.size + 1, 7, none⟩, .int .i64 (-1)), (⟨w.heap.size + 1, 8, none⟩, .int .i64 2147483647), (⟨w.heap.size + 1, 9, none⟩, .pointer (some ⟨w.heap.size, 3, none⟩)), (⟨w.heap.size + 1, 10, none⟩, .int .i64 1), (⟨w.heap.size + 1, 11, none⟩, .int .i64 4), (⟨w.heap.size + 1, 12, none⟩, .pointer (some ⟨w.heap.size, 4, none⟩)), (⟨w.heap.size + 1, 13, none⟩, .int .i64 (-1048576)), (⟨w.heap.size + 1, 14, none⟩, .int .i64 1048576)] w wr) (fun i _ => 5 - (intOf i).toNat)
  case atStart =>
    refine ⟨0, by omega, rfl, by omega, ?_, by simp, by simp [List.forall_mem_cons], by simp [cellsAre_cons, cellsAre_nil, go_sem, World.cell?_alloc_past]⟩
    (repeat (first | with_reducible apply Below.drew | with_reducible refine Below.setCell ?_ (by first | exact Nat.le_refl _ | (simp; done) | (simp; omega) | omega) _ | with_reducible refine Below.alloc ?_ (by first | exact Nat.le_refl _ | (simp; done) | (simp; omega) | omega) _ | with_reducible exact Below.refl _ _ | with_reducible assumption))
  case round =>
    obtain ⟨k, hk5, rfl, hr, hk⟩ := hrel
    obtain rfl | rfl | rfl | rfl | rfl | rfl : k = 0 ∨ k = 1 ∨ k = 2 ∨ k = 3 ∨ k = 4 ∨ k = 5 := by omega
    · have hk' := hk
      obtain ⟨h1, h2, h3, h4⟩ := hk'
      simp only [cellsAre_cons, cellsAre_nil, and_true] at h4
      go_wp2_with fail
      refine abs_code (fun w' => Keeps (wr.heap.size + 1) ([(⟨wr.heap.size, 0, none⟩, .pointer (some ⟨w.heap.size, 0, none⟩)), (⟨wr.heap.size, 1, none⟩, .int .i64 1), (⟨wr.heap.size, 2, none⟩, .int .i64 2147483647)] ++ [(⟨w.heap.size, 0, none⟩, .int .i64 x0), (⟨w.heap.size, 1, none⟩, .int .i64 x1), (⟨w.heap.size, 2, none⟩, .int .i64 x2), (⟨w.heap.size, 3, none⟩, .int .i64 x3), (⟨w.heap.size, 4, none⟩, .int .i64 x4), (⟨w.heap.size + 1, 0, none⟩, .pointer (some ⟨w.heap.size, 0, none⟩)), (⟨w.heap.size + 1, 1, none⟩, .int .i64 1), (⟨w.heap.size + 1, 2, none⟩, .int .i64 2147483647), (⟨w.heap.size + 1, 3, none⟩, .pointer (some ⟨w.heap.size, 1, none⟩)), (⟨w.heap.size + 1, 4, none⟩, .int .i64 0), (⟨w.heap.size + 1, 5, none⟩, .int .i64 3), (⟨w.heap.size + 1, 6, none⟩, .pointer (some ⟨w.heap.size, 2, none⟩)), (⟨w.heap.size + 1, 7, none⟩, .int .i64 (-1)), (⟨w.heap.size + 1, 8, none⟩, .int .i64 2147483647), (⟨w.heap.size + 1, 9, none⟩, .pointer (some ⟨w.heap.size, 3, none⟩)), (⟨w.heap.size + 1, 10, none⟩, .int .i64 1), (⟨w.heap.size + 1, 11, none⟩, .int .i64 4), (⟨w.heap.size + 1, 12, none⟩, .pointer (some ⟨w.heap.size, 4, none⟩)), (⟨w.heap.size + 1, 13, none⟩, .int .i64 (-1048576)), (⟨w.heap.size + 1, 14, none⟩, .int .i64 1048576)]) w w') (Keeps.more (B := w.heap.size + 2) (L := [(⟨w.heap.size, 0, none⟩, .int .i64 x0), (⟨w.heap.size, 1, none⟩, .int .i64 x1), (⟨w.heap.size, 2, none⟩, .int .i64 x2), (⟨w.heap.size, 3, none⟩, .int .i64 x3), (⟨w.heap.size, 4, none⟩, .int .i64 x4), (⟨w.heap.size + 1, 0, none⟩, .pointer (some ⟨w.heap.size, 0, none⟩)), (⟨w.heap.size + 1, 1, none⟩, .int .i64 1), (⟨w.heap.size + 1, 2, none⟩, .int .i64 2147483647), (⟨w.heap.size + 1, 3, none⟩, .pointer (some ⟨w.heap.size, 1, none⟩)), (⟨w.heap.size + 1, 4, none⟩, .int .i64 0), (⟨w.heap.size + 1, 5, none⟩, .int .i64 3), (⟨w.heap.size + 1, 6, none⟩, .pointer (some ⟨w.heap.size, 2, none⟩)), (⟨w.heap.size + 1, 7, none⟩, .int .i64 (-1)), (⟨w.heap.size + 1, 8, none⟩, .int .i64 2147483647), (⟨w.heap.size + 1, 9, none⟩, .pointer (some ⟨w.heap.size, 3, none⟩)), (⟨w.heap.size + 1, 10, none⟩, .int .i64 1), (⟨w.heap.size + 1, 11, none⟩, .int .i64 4), (⟨w.heap.size + 1, 12, none⟩, .pointer (some ⟨w.heap.size, 4, none⟩)), (⟨w.heap.size + 1, 13, none⟩, .int .i64 (-1048576)), (⟨w.heap.size + 1, 14, none⟩, .int .i64 1048576)]) (by repeat (first | with_reducible assumption | with_reducible apply Keeps.drew | with_reducible apply Keeps.alloc)) (by omega) (by simp) (by simp [List.forall_mem_cons]) (by simp [cellsAre_cons, cellsAre_nil, go_sem])) ?_
      intro w2 hk2
      clear hk h1 h3 h4
      generalize wr.heap.size = b at *
      simp only [List.cons_append, List.nil_append] at hk2
      have hB := h2
      clear h2
      obtain ⟨h1, h2, h3, h4⟩ := id hk2
      simp only [cellsAre_cons, cellsAre_nil, and_true] at h4
      refine wp_region_all (fun w' => Keeps (b + 1) [(⟨b, 0, none⟩, .pointer (some ⟨w.heap.size, 0, none⟩)), (⟨b, 1, none⟩, .int .i64 1), (⟨b, 2, none⟩, .int .i64 2147483647), (⟨w.heap.size, 0, none⟩, .int .i64 x0), (⟨w.heap.size, 1, none⟩, .int .i64 x1), (⟨w.heap.size, 2, none⟩, .int .i64 x2), (⟨w.heap.size, 3, none⟩, .int .i64 x3), (⟨w.heap.size, 4, none⟩, .int .i64 x4), (⟨w.heap.size + 1, 0, none⟩, .pointer (some ⟨w.heap.size, 0, none⟩)), (⟨w.heap.size + 1, 1, none⟩, .int .i64 1), (⟨w.heap.size + 1, 2, none⟩, .int .i64 2147483647), (⟨w.heap.size + 1, 3, none⟩, .pointer (some ⟨w.heap.size, 1, none⟩)), (⟨w.heap.size + 1, 4, none⟩, .int .i64 0), (⟨w.heap.size + 1, 5, none⟩, .int .i64 3), (⟨w.heap.size + 1, 6, none⟩, .pointer (some ⟨w.heap.size, 2, none⟩)), (⟨w.heap.size + 1, 7, none⟩, .int .i64 (-1)), (⟨w.heap.size + 1, 8, none⟩, .int .i64 2147483647), (⟨w.heap.size + 1, 9, none⟩, .pointer (some ⟨w.heap.size, 3, none⟩)), (⟨w.heap.size + 1, 10, none⟩, .int .i64 1), (⟨w.heap.size + 1, 11, none⟩, .int .i64 4), (⟨w.heap.size + 1, 12, none⟩, .pointer (some ⟨w.heap.size, 4, none⟩)), (⟨w.heap.size + 1, 13, none⟩, .int .i64 (-1048576)), (⟨w.heap.size + 1, 14, none⟩, .int .i64 1048576)] w w') (by kernel_rfl) (by kernel_rfl) (by with_reducible apply Keeps.drew; with_reducible assumption) rfl ?_
      intro K T hK hT hT'
      simp only [List.map] at hK ⊢
      go_wp2_with (first
        | (apply SeqD.skip; rfl; simp only [Act.put, List.setIfInBounds_toArray, List.set_cons_zero, List.set_cons_succ])
        | (apply SeqD.call; rfl; rfl; (intro w hw; obtain ⟨h1, h2, h3, h4⟩ := hT _ hw; simp only [cellsAre_cons, cellsAre_nil, and_true] at h4; go_simp; exact ⟨rfl, rfl⟩); (intro w hw; obtain ⟨h1, h2, h3, h4⟩ := hT _ hw; simp only [cellsAre_cons, cellsAre_nil, and_true] at h4; (first | fail)); simp only [Act.put, List.setIfInBounds_toArray, List.set_cons_zero, List.set_cons_succ])
        | (apply SeqD.pure; rfl; (intro w hw; obtain ⟨h1, h2, h3, h4⟩ := hT _ hw; simp only [cellsAre_cons, cellsAre_nil, and_true] at h4; go_simp; with_reducible rfl); simp only [Act.put, List.setIfInBounds_toArray, List.set_cons_zero, List.set_cons_succ])
        | (apply SeqD.split; rfl; rfl; all_goals (intro hc; simp only [hc]; try simp only [beq_iff_eq, decide_eq_true_eq, beq_eq_false_iff_ne, decide_eq_false_iff_not, bne_iff_ne, ne_eq, Bool.not_eq_true', Bool.not_eq_false', Int.not_le, Int.not_lt, bne_eq_false_iff_eq] at hc)))
      all_goals (apply SeqD.nil; refine hK _ ?_; clear h1 h2 h3 h4; intro w hw; obtain ⟨h1, h2, h3, h4⟩ := id hw; simp only [cellsAre_cons, cellsAre_nil, and_true] at h4; clear hT hT' hK)
      all_goals go_wp2
      all_goals first
        | (go_ret; refine ⟨ret_int ?_, h1⟩; rw [errOf, if_neg]; rw [HO.out, decide_eq_true_eq]; omega)
        | (go_roundw; (case rel => exact ⟨1, by omega, by go_num, by omega, hw.sub (by omega) (by simp [List.forall_mem_cons])⟩); (case measure => simp [intOf]))
    · have hk' := hk
      obtain ⟨h1, h2, h3, h4⟩ := hk'
      simp only [cellsAre_cons, cellsAre_nil, and_true] at h4
      go_wp2_with fail
      refine abs_code (fun w' => Keeps (wr.heap.size + 1) ([(⟨wr.heap.size, 0, none⟩, .pointer (some ⟨w.heap.size, 1, none⟩)), (⟨wr.heap.size, 1, none⟩, .int .i64 0), (⟨wr.heap.size, 2, none⟩, .int .i64 3)] ++ [(⟨w.heap.size, 0, none⟩, .int .i64 x0), (⟨w.heap.size, 1, none⟩, .int .i64 x1), (⟨w.heap.size, 2, none⟩, .int .i64 x2), (⟨w.heap.size, 3, none⟩, .int .i64 x3), (⟨w.heap.size, 4, none⟩, .int .i64 x4), (⟨w.heap.size + 1, 0, none⟩, .pointer (some ⟨w.heap.size, 0, none⟩)), (⟨w.heap.size + 1, 1, none⟩, .int .i64 1), (⟨w.heap.size + 1, 2, none⟩, .int .i64 2147483647), (⟨w.heap.size + 1, 3, none⟩, .pointer (some ⟨w.heap.size, 1, none⟩)), (⟨w.heap.size + 1, 4, none⟩, .int .i64 0), (⟨w.heap.size + 1, 5, none⟩, .int .i64 3), (⟨w.heap.size + 1, 6, none⟩, .pointer (some ⟨w.heap.size, 2, none⟩)), (⟨w.heap.size + 1, 7, none⟩, .int .i64 (-1)), (⟨w.heap.size + 1, 8, none⟩, .int .i64 2147483647), (⟨w.heap.size + 1, 9, none⟩, .pointer (some ⟨w.heap.size, 3, none⟩)), (⟨w.heap.size + 1, 10, none⟩, .int .i64 1), (⟨w.heap.size + 1, 11, none⟩, .int .i64 4), (⟨w.heap.size + 1, 12, none⟩, .pointer (some ⟨w.heap.size, 4, none⟩)), (⟨w.heap.size + 1, 13, none⟩, .int .i64 (-1048576)), (⟨w.heap.size + 1, 14, none⟩, .int .i64 1048576)]) w w') (Keeps.more (B := w.heap.size + 2) (L := [(⟨w.heap.size, 0, none⟩, .int .i64 x0), (⟨w.heap.size, 1, none⟩, .int .i64 x1), (⟨w.heap.size, 2, none⟩, .int .i64 x2), (⟨w.heap.size, 3, none⟩, .int .i64 x3), (⟨w.heap.size, 4, none⟩, .int .i64 x4), (⟨w.heap.size + 1, 0, none⟩, .pointer (some ⟨w.heap.size, 0, none⟩)), (⟨w.heap.size + 1, 1, none⟩, .int .i64 1), (⟨w.heap.size + 1, 2, none⟩, .int .i64 2147483647), (⟨w.heap.size + 1, 3, none⟩, .pointer (some ⟨w.heap.size, 1, none⟩)), (⟨w.heap.size + 1, 4, none⟩, .int .i64 0), (⟨w.heap.size + 1, 5, none⟩, .int .i64 3), (⟨w.heap.size + 1, 6, none⟩, .pointer (some ⟨w.heap.size, 2, none⟩)), (⟨w.heap.size + 1, 7, none⟩, .int .i64 (-1)), (⟨w.heap.size + 1, 8, none⟩, .int .i64 2147483647), (⟨w.heap.size + 1, 9, none⟩, .pointer (some ⟨w.heap.size, 3, none⟩)), (⟨w.heap.size + 1, 10, none⟩, .int .i64 1), (⟨w.heap.size + 1, 11, none⟩, .int .i64 4), (⟨w.heap.size + 1, 12, none⟩, .pointer (some ⟨w.heap.size, 4, none⟩)), (⟨w.heap.size + 1, 13, none⟩, .int .i64 (-1048576)), (⟨w.heap.size + 1, 14, none⟩, .int .i64 1048576)]) (by repeat (first | with_reducible assumption | with_reducible apply Keeps.drew | with_reducible apply Keeps.alloc)) (by omega) (by simp) (by simp [List.forall_mem_cons]) (by simp [cellsAre_cons, cellsAre_nil, go_sem])) ?_
      intro w2 hk2
      clear hk h1 h3 h4
      generalize wr.heap.size = b at *
      simp only [List.cons_append, List.nil_append] at hk2
      have hB := h2
      clear h2
      obtain ⟨h1, h2, h3, h4⟩ := id hk2
      simp only [cellsAre_cons, cellsAre_nil, and_true] at h4
      refine wp_region_all (fun w' => Keeps (b + 1) [(⟨b, 0, none⟩, .pointer (some ⟨w.heap.size, 1, none⟩)), (⟨b, 1, none⟩, .int .i64 0), (⟨b, 2, none⟩, .int .i64 3), (⟨w.heap.size, 0, none⟩, .int .i64 x0), (⟨w.heap.size, 1, none⟩, .int .i64 x1), (⟨w.heap.size, 2, none⟩, .int .i64 x2), (⟨w.heap.size, 3, none⟩, .int .i64 x3), (⟨w.heap.size, 4, none⟩, .int .i64 x4), (⟨w.heap.size + 1, 0, none⟩, .pointer (some ⟨w.heap.size, 0, none⟩)), (⟨w.heap.size + 1, 1, none⟩, .int .i64 1), (⟨w.heap.size + 1, 2, none⟩, .int .i64 2147483647), (⟨w.heap.size + 1, 3, none⟩, .pointer (some ⟨w.heap.size, 1, none⟩)), (⟨w.heap.size + 1, 4, none⟩, .int .i64 0), (⟨w.heap.size + 1, 5, none⟩, .int .i64 3), (⟨w.heap.size + 1, 6, none⟩, .pointer (some ⟨w.heap.size, 2, none⟩)), (⟨w.heap.size + 1, 7, none⟩, .int .i64 (-1)), (⟨w.heap.size + 1, 8, none⟩, .int .i64 2147483647), (⟨w.heap.size + 1, 9, none⟩, .pointer (some ⟨w.heap.size, 3, none⟩)), (⟨w.heap.size + 1, 10, none⟩, .int .i64 1), (⟨w.heap.size + 1, 11, none⟩, .int .i64 4), (⟨w.heap.size + 1, 12, none⟩, .pointer (some ⟨w.heap.size, 4, none⟩)), (⟨w.heap.size + 1, 13, none⟩, .int .i64 (-1048576)), (⟨w.heap.size + 1, 14, none⟩, .int .i64 1048576)] w w') (by kernel_rfl) (by kernel_rfl) (by with_reducible apply Keeps.drew; with_reducible assumption) rfl ?_
      intro K T hK hT hT'
      simp only [List.map] at hK ⊢
      go_wp2_with (first
        | (apply SeqD.skip; rfl; simp only [Act.put, List.setIfInBounds_toArray, List.set_cons_zero, List.set_cons_succ])
        | (apply SeqD.call; rfl; rfl; (intro w hw; obtain ⟨h1, h2, h3, h4⟩ := hT _ hw; simp only [cellsAre_cons, cellsAre_nil, and_true] at h4; go_simp; exact ⟨rfl, rfl⟩); (intro w hw; obtain ⟨h1, h2, h3, h4⟩ := hT _ hw; simp only [cellsAre_cons, cellsAre_nil, and_true] at h4; (first | fail)); simp only [Act.put, List.setIfInBounds_toArray, List.set_cons_zero, List.set_cons_succ])
        | (apply SeqD.pure; rfl; (intro w hw; obtain ⟨h1, h2, h3, h4⟩ := hT _ hw; simp only [cellsAre_cons, cellsAre_nil, and_true] at h4; go_simp; with_reducible rfl); simp only [Act.put, List.setIfInBounds_toArray, List.set_cons_zero, List.set_cons_succ])
        | (apply SeqD.split; rfl; rfl; all_goals (intro hc; simp only [hc]; try simp only [beq_iff_eq, decide_eq_true_eq, beq_eq_false_iff_ne, decide_eq_false_iff_not, bne_iff_ne, ne_eq, Bool.not_eq_true', Bool.not_eq_false', Int.not_le, Int.not_lt, bne_eq_false_iff_eq] at hc)))
      all_goals (apply SeqD.nil; refine hK _ ?_; clear h1 h2 h3 h4; intro w hw; obtain ⟨h1, h2, h3, h4⟩ := id hw; simp only [cellsAre_cons, cellsAre_nil, and_true] at h4; clear hT hT' hK)
      all_goals go_wp2
      all_goals first
        | (go_ret; refine ⟨ret_int ?_, h1⟩; rw [errOf, if_neg]; rw [HO.out, decide_eq_true_eq]; omega)
        | (go_roundw; (case rel => exact ⟨2, by omega, by go_num, by omega, hw.sub (by omega) (by simp [List.forall_mem_cons])⟩); (case measure => simp [intOf]))
    · have hk' := hk
      obtain ⟨h1, h2, h3, h4⟩ := hk'
      simp only [cellsAre_cons, cellsAre_nil, and_true] at h4
      go_wp2_with fail
      refine abs_code (fun w' => Keeps (wr.heap.size + 1) ([(⟨wr.heap.size, 0, none⟩, .pointer (some ⟨w.heap.size, 2, none⟩)), (⟨wr.heap.size, 1, none⟩, .int .i64 (-1)), (⟨wr.heap.size, 2, none⟩, .int .i64 2147483647)] ++ [(⟨w.heap.size, 0, none⟩, .int .i64 x0), (⟨w.heap.size, 1, none⟩, .int .i64 x1), (⟨w.heap.size, 2, none⟩, .int .i64 x2), (⟨w.heap.size, 3, none⟩, .int .i64 x3), (⟨w.heap.size, 4, none⟩, .int .i64 x4), (⟨w.heap.size + 1, 0, none⟩, .pointer (some ⟨w.heap.size, 0, none⟩)), (⟨w.heap.size + 1, 1, none⟩, .int .i64 1), (⟨w.heap.size + 1, 2, none⟩, .int .i64 2147483647), (⟨w.heap.size + 1, 3, none⟩, .pointer (some ⟨w.heap.size, 1, none⟩)), (⟨w.heap.size + 1, 4, none⟩, .int .i64 0), (⟨w.heap.size + 1, 5, none⟩, .int .i64 3), (⟨w.heap.size + 1, 6, none⟩, .pointer (some ⟨w.heap.size, 2, none⟩)), (⟨w.heap.size + 1, 7, none⟩, .int .i64 (-1)), (⟨w.heap.size + 1, 8, none⟩, .int .i64 2147483647), (⟨w.heap.size + 1, 9, none⟩, .pointer (some ⟨w.heap.size, 3, none⟩)), (⟨w.heap.size + 1, 10, none⟩, .int .i64 1), (⟨w.heap.size + 1, 11, none⟩, .int .i64 4), (⟨w.heap.size + 1, 12, none⟩, .pointer (some ⟨w.heap.size, 4, none⟩)), (⟨w.heap.size + 1, 13, none⟩, .int .i64 (-1048576)), (⟨w.heap.size + 1, 14, none⟩, .int .i64 1048576)]) w w') (Keeps.more (B := w.heap.size + 2) (L := [(⟨w.heap.size, 0, none⟩, .int .i64 x0), (⟨w.heap.size, 1, none⟩, .int .i64 x1), (⟨w.heap.size, 2, none⟩, .int .i64 x2), (⟨w.heap.size, 3, none⟩, .int .i64 x3), (⟨w.heap.size, 4, none⟩, .int .i64 x4), (⟨w.heap.size + 1, 0, none⟩, .pointer (some ⟨w.heap.size, 0, none⟩)), (⟨w.heap.size + 1, 1, none⟩, .int .i64 1), (⟨w.heap.size + 1, 2, none⟩, .int .i64 2147483647), (⟨w.heap.size + 1, 3, none⟩, .pointer (some ⟨w.heap.size, 1, none⟩)), (⟨w.heap.size + 1, 4, none⟩, .int .i64 0), (⟨w.heap.size + 1, 5, none⟩, .int .i64 3), (⟨w.heap.size + 1, 6, none⟩, .pointer (some ⟨w.heap.size, 2, none⟩)), (⟨w.heap.size + 1, 7, none⟩, .int .i64 (-1)), (⟨w.heap.size + 1, 8, none⟩, .int .i64 2147483647), (⟨w.heap.size + 1, 9, none⟩, .pointer (some ⟨w.heap.size, 3, none⟩)), (⟨w.heap.size + 1, 10, none⟩, .int .i64 1), (⟨w.heap.size + 1, 11, none⟩, .int .i64 4), (⟨w.heap.size + 1, 12, none⟩, .pointer (some ⟨w.heap.size, 4, none⟩)), (⟨w.heap.size + 1, 13, none⟩, .int .i64 (-1048576)), (⟨w.heap.size + 1, 14, none⟩, .int .i64 1048576)]) (by repeat (first | with_reducible assumption | with_reducible apply Keeps.drew | with_reducible apply Keeps.alloc)) (by omega) (by simp) (by simp [List.forall_mem_cons]) (by simp [cellsAre_cons, cellsAre_nil, go_sem])) ?_
      intro w2 hk2
      clear hk h1 h3 h4
      generalize wr.heap.size = b at *
      simp only [List.cons_append, List.nil_append] at hk2
      have hB := h2
      clear h2
      obtain ⟨h1, h2, h3, h4⟩ := id hk2
      simp only [cellsAre_cons, cellsAre_nil, and_true] at h4
      refine wp_region_all (fun w' => Keeps (b + 1) [(⟨b, 0, none⟩, .pointer (some ⟨w.heap.size, 2, none⟩)), (⟨b, 1, none⟩, .int .i64 (-1)), (⟨b, 2, none⟩, .int .i64 2147483647), (⟨w.heap.size, 0, none⟩, .int .i64 x0), (⟨w.heap.size, 1, none⟩, .int .i64 x1), (⟨w.heap.size, 2, none⟩, .int .i64 x2), (⟨w.heap.size, 3, none⟩, .int .i64 x3), (⟨w.heap.size, 4, none⟩, .int .i64 x4), (⟨w.heap.size + 1, 0, none⟩, .pointer (some ⟨w.heap.size, 0, none⟩)), (⟨w.heap.size + 1, 1, none⟩, .int .i64 1), (⟨w.heap.size + 1, 2, none⟩, .int .i64 2147483647), (⟨w.heap.size + 1, 3, none⟩, .pointer (some ⟨w.heap.size, 1, none⟩)), (⟨w.heap.size + 1, 4, none⟩, .int .i64 0), (⟨w.heap.size + 1, 5, none⟩, .int .i64 3), (⟨w.heap.size + 1, 6, none⟩, .pointer (some ⟨w.heap.size, 2, none⟩)), (⟨w.heap.size + 1, 7, none⟩, .int .i64 (-1)), (⟨w.heap.size + 1, 8, none⟩, .int .i64 2147483647), (⟨w.heap.size + 1, 9, none⟩, .pointer (some ⟨w.heap.size, 3, none⟩)), (⟨w.heap.size + 1, 10, none⟩, .int .i64 1), (⟨w.heap.size + 1, 11, none⟩, .int .i64 4), (⟨w.heap.size + 1, 12, none⟩, .pointer (some ⟨w.heap.size, 4, none⟩)), (⟨w.heap.size + 1, 13, none⟩, .int .i64 (-1048576)), (⟨w.heap.size + 1, 14, none⟩, .int .i64 1048576)] w w') (by kernel_rfl) (by kernel_rfl) (by with_reducible apply Keeps.drew; with_reducible assumption) rfl ?_
      intro K T hK hT hT'
      simp only [List.map] at hK ⊢
      go_wp2_with (first
        | (apply SeqD.skip; rfl; simp only [Act.put, List.setIfInBounds_toArray, List.set_cons_zero, List.set_cons_succ])
        | (apply SeqD.call; rfl; rfl; (intro w hw; obtain ⟨h1, h2, h3, h4⟩ := hT _ hw; simp only [cellsAre_cons, cellsAre_nil, and_true] at h4; go_simp; exact ⟨rfl, rfl⟩); (intro w hw; obtain ⟨h1, h2, h3, h4⟩ := hT _ hw; simp only [cellsAre_cons, cellsAre_nil, and_true] at h4; (first | fail)); simp only [Act.put, List.setIfInBounds_toArray, List.set_cons_zero, List.set_cons_succ])
        | (apply SeqD.pure; rfl; (intro w hw; obtain ⟨h1, h2, h3, h4⟩ := hT _ hw; simp only [cellsAre_cons, cellsAre_nil, and_true] at h4; go_simp; with_reducible rfl); simp only [Act.put, List.setIfInBounds_toArray, List.set_cons_zero, List.set_cons_succ])
        | (apply SeqD.split; rfl; rfl; all_goals (intro hc; simp only [hc]; try simp only [beq_iff_eq, decide_eq_true_eq, beq_eq_false_iff_ne, decide_eq_false_iff_not, bne_iff_ne, ne_eq, Bool.not_eq_true', Bool.not_eq_false', Int.not_le, Int.not_lt, bne_eq_false_iff_eq] at hc)))
      all_goals (apply SeqD.nil; refine hK _ ?_; clear h1 h2 h3 h4; intro w hw; obtain ⟨h1, h2, h3, h4⟩ := id hw; simp only [cellsAre_cons, cellsAre_nil, and_true] at h4; clear hT hT' hK)
      all_goals go_wp2
      all_goals first
        | (go_ret; refine ⟨ret_int ?_, h1⟩; rw [errOf, if_neg]; rw [HO.out, decide_eq_true_eq]; omega)
        | (go_roundw; (case rel => exact ⟨3, by omega, by go_num, by omega, hw.sub (by omega) (by simp [List.forall_mem_cons])⟩); (case measure => simp [intOf]))
    · have hk' := hk
      obtain ⟨h1, h2, h3, h4⟩ := hk'
      simp only [cellsAre_cons, cellsAre_nil, and_true] at h4
      go_wp2_with fail
      refine abs_code (fun w' => Keeps (wr.heap.size + 1) ([(⟨wr.heap.size, 0, none⟩, .pointer (some ⟨w.heap.size, 3, none⟩)), (⟨wr.heap.size, 1, none⟩, .int .i64 1), (⟨wr.heap.size, 2, none⟩, .int .i64 4)] ++ [(⟨w.heap.size, 0, none⟩, .int .i64 x0), (⟨w.heap.size, 1, none⟩, .int .i64 x1), (⟨w.heap.size, 2, none⟩, .int .i64 x2), (⟨w.heap.size, 3, none⟩, .int .i64 x3), (⟨w.heap.size, 4, none⟩, .int .i64 x4), (⟨w.heap.size + 1, 0, none⟩, .pointer (some ⟨w.heap.size, 0, none⟩)), (⟨w.heap.size + 1, 1, none⟩, .int .i64 1), (⟨w.heap.size + 1, 2, none⟩, .int .i64 2147483647), (⟨w.heap.size + 1, 3, none⟩, .pointer (some ⟨w.heap.size, 1, none⟩)), (⟨w.heap.size + 1, 4, none⟩, .int .i64 0), (⟨w.heap.size + 1, 5, none⟩, .int .i64 3), (⟨w.heap.size + 1, 6, none⟩, .pointer (some ⟨w.heap.size, 2, none⟩)), (⟨w.heap.size + 1, 7, none⟩, .int .i64 (-1)), (⟨w.heap.size + 1, 8, none⟩, .int .i64 2147483647), (⟨w.heap.size + 1, 9, none⟩, .pointer (some ⟨w.heap.size, 3, none⟩)), (⟨w.heap.size + 1, 10, none⟩, .int .i64 1), (⟨w.heap.size + 1, 11, none⟩, .int .i64 4), (⟨w.heap.size + 1, 12, none⟩, .pointer (some ⟨w.heap.size, 4, none⟩)), (⟨w.heap.size + 1, 13, none⟩, .int .i64 (-1048576)), (⟨w.heap.size + 1, 14, none⟩, .int .i64 1048576)]) w w') (Keeps.more (B := w.heap.size + 2) (L := [(⟨w.heap.size, 0, none⟩, .int .i64 x0), (⟨w.heap.size, 1, none⟩, .int .i64 x1), (⟨w.heap.size, 2, none⟩, .int .i64 x2), (⟨w.heap.size, 3, none⟩, .int .i64 x3), (⟨w.heap.size, 4, none⟩, .int .i64 x4), (⟨w.heap.size + 1, 0, none⟩, .pointer (some ⟨w.heap.size, 0, none⟩)), (⟨w.heap.size + 1, 1, none⟩, .int .i64 1), (⟨w.heap.size + 1, 2, none⟩, .int .i64 2147483647), (⟨w.heap.size + 1, 3, none⟩, .pointer (some ⟨w.heap.size, 1, none⟩)), (⟨w.heap.size + 1, 4, none⟩, .int .i64 0), (⟨w.heap.size + 1, 5, none⟩, .int .i64 3), (⟨w.heap.size + 1, 6, none⟩, .pointer (some ⟨w.heap.size, 2, none⟩)), (⟨w.heap.size + 1, 7, none⟩, .int .i64 (-1)), (⟨w.heap.size + 1, 8, none⟩, .int .i64 2147483647), (⟨w.heap.size + 1, 9, none⟩, .pointer (some ⟨w.heap.size, 3, none⟩)), (⟨w.heap.size + 1, 10, none⟩, .int .i64 1), (⟨w.heap.size + 1, 11, none⟩, .int .i64 4), (⟨w.heap.size + 1, 12, none⟩, .pointer (some ⟨w.heap.size, 4, none⟩)), (⟨w.heap.size + 1, 13, none⟩, .int .i64 (-1048576)), (⟨w.heap.size + 1, 14, none⟩, .int .i64 1048576)]) (by repeat (first | with_reducible assumption | with_reducible apply Keeps.drew | with_reducible apply Keeps.alloc)) (by omega) (by simp) (by simp [List.forall_mem_cons]) (by simp [cellsAre_cons, cellsAre_nil, go_sem])) ?_
      intro w2 hk2
      clear hk h1 h3 h4
      generalize wr.heap.size = b at *
      simp only [List.cons_append, List.nil_append] at hk2
      have hB := h2
      clear h2
      obtain ⟨h1, h2, h3, h4⟩ := id hk2
      simp only [cellsAre_cons, cellsAre_nil, and_true] at h4
      refine wp_region_all (fun w' => Keeps (b + 1) [(⟨b, 0, none⟩, .pointer (some ⟨w.heap.size, 3, none⟩)), (⟨b, 1, none⟩, .int .i64 1), (⟨b, 2, none⟩, .int .i64 4), (⟨w.heap.size, 0, none⟩, .int .i64 x0), (⟨w.heap.size, 1, none⟩, .int .i64 x1), (⟨w.heap.size, 2, none⟩, .int .i64 x2), (⟨w.heap.size, 3, none⟩, .int .i64 x3), (⟨w.heap.size, 4, none⟩, .int .i64 x4), (⟨w.heap.size + 1, 0, none⟩, .pointer (some ⟨w.heap.size, 0, none⟩)), (⟨w.heap.size + 1, 1, none⟩, .int .i64 1), (⟨w.heap.size + 1, 2, none⟩, .int .i64 2147483647), (⟨w.heap.size + 1, 3, none⟩, .pointer (some ⟨w.heap.size, 1, none⟩)), (⟨w.heap.size + 1, 4, none⟩, .int .i64 0), (⟨w.heap.size + 1, 5, none⟩, .int .i64 3), (⟨w.heap.size + 1, 6, none⟩, .pointer (some ⟨w.heap.size, 2, none⟩)), (⟨w.heap.size + 1, 7, none⟩, .int .i64 (-1)), (⟨w.heap.size + 1, 8, none⟩, .int .i64 2147483647), (⟨w.heap.size + 1, 9, none⟩, .pointer (some ⟨w.heap.size, 3, none⟩)), (⟨w.heap.size + 1, 10, none⟩, .int .i64 1), (⟨w.heap.size + 1, 11, none⟩, .int .i64 4), (⟨w.heap.size + 1, 12, none⟩, .pointer (some ⟨w.heap.size, 4, none⟩)), (⟨w.heap.size + 1, 13, none⟩, .int .i64 (-1048576)), (⟨w.heap.size + 1, 14, none⟩, .int .i64 1048576)] w w') (by kernel_rfl) (by kernel_rfl) (by with_reducible apply Keeps.drew; with_reducible assumption) rfl ?_
      intro K T hK hT hT'
      simp only [List.map] at hK ⊢
      go_wp2_with (first
        | (apply SeqD.skip; rfl; simp only [Act.put, List.setIfInBounds_toArray, List.set_cons_zero, List.set_cons_succ])
        | (apply SeqD.call; rfl; rfl; (intro w hw; obtain ⟨h1, h2, h3, h4⟩ := hT _ hw; simp only [cellsAre_cons, cellsAre_nil, and_true] at h4; go_simp; exact ⟨rfl, rfl⟩); (intro w hw; obtain ⟨h1, h2, h3, h4⟩ := hT _ hw; simp only [cellsAre_cons, cellsAre_nil, and_true] at h4; (first | fail)); simp only [Act.put, List.setIfInBounds_toArray, List.set_cons_zero, List.set_cons_succ])
        | (apply SeqD.pure; rfl; (intro w hw; obtain ⟨h1, h2, h3, h4⟩ := hT _ hw; simp only [cellsAre_cons, cellsAre_nil, and_true] at h4; go_simp; with_reducible rfl); simp only [Act.put, List.setIfInBounds_toArray, List.set_cons_zero, List.set_cons_succ])
        | (apply SeqD.split; rfl; rfl; all_goals (intro hc; simp only [hc]; try simp only [beq_iff_eq, decide_eq_true_eq, beq_eq_false_iff_ne, decide_eq_false_iff_not, bne_iff_ne, ne_eq, Bool.not_eq_true', Bool.not_eq_false', Int.not_le, Int.not_lt, bne_eq_false_iff_eq] at hc)))
      all_goals (apply SeqD.nil; refine hK _ ?_; clear h1 h2 h3 h4; intro w hw; obtain ⟨h1, h2, h3, h4⟩ := id hw; simp only [cellsAre_cons, cellsAre_nil, and_true] at h4; clear hT hT' hK)
      all_goals go_wp2
      all_goals first
        | (go_ret; refine ⟨ret_int ?_, h1⟩; rw [errOf, if_neg]; rw [HO.out, decide_eq_true_eq]; omega)
        | (go_roundw; (case rel => exact ⟨4, by omega, by go_num, by omega, hw.sub (by omega) (by simp [List.forall_mem_cons])⟩); (case measure => simp [intOf]))
    · have hk' := hk
      obtain ⟨h1, h2, h3, h4⟩ := hk'
      simp only [cellsAre_cons, cellsAre_nil, and_true] at h4
      go_wp2_with fail
      refine abs_code (fun w' => Keeps (wr.heap.size + 1) ([(⟨wr.heap.size, 0, none⟩, .pointer (some ⟨w.heap.size, 4, none⟩)), (⟨wr.heap.size, 1, none⟩, .int .i64 (-1048576)), (⟨wr.heap.size, 2, none⟩, .int .i64 1048576)] ++ [(⟨w.heap.size, 0, none⟩, .int .i64 x0), (⟨w.heap.size, 1, none⟩, .int .i64 x1), (⟨w.heap.size, 2, none⟩, .int .i64 x2), (⟨w.heap.size, 3, none⟩, .int .i64 x3), (⟨w.heap.size, 4, none⟩, .int .i64 x4), (⟨w.heap.size + 1, 0, none⟩, .pointer (some ⟨w.heap.size, 0, none⟩)), (⟨w.heap.size + 1, 1, none⟩, .int .i64 1), (⟨w.heap.size + 1, 2, none⟩, .int .i64 2147483647), (⟨w.heap.size + 1, 3, none⟩, .pointer (some ⟨w.heap.size, 1, none⟩)), (⟨w.heap.size + 1, 4, none⟩, .int .i64 0), (⟨w.heap.size + 1, 5, none⟩, .int .i64 3), (⟨w.heap.size + 1, 6, none⟩, .pointer (some ⟨w.heap.size, 2, none⟩)), (⟨w.heap.size + 1, 7, none⟩, .int .i64 (-1)), (⟨w.heap.size + 1, 8, none⟩, .int .i64 2147483647), (⟨w.heap.size + 1, 9, none⟩, .pointer (some ⟨w.heap.size, 3, none⟩)), (⟨w.heap.size + 1, 10, none⟩, .int .i64 1), (⟨w.heap.size + 1, 11, none⟩, .int .i64 4), (⟨w.heap.size + 1, 12, none⟩, .pointer (some ⟨w.heap.size, 4, none⟩)), (⟨w.heap.size + 1, 13, none⟩, .int .i64 (-1048576)), (⟨w.heap.size + 1, 14, none⟩, .int .i64 1048576)]) w w') (Keeps.more (B := w.heap.size + 2) (L := [(⟨w.heap.size, 0, none⟩, .int .i64 x0), (⟨w.heap.size, 1, none⟩, .int .i64 x1), (⟨w.heap.size, 2, none⟩, .int .i64 x2), (⟨w.heap.size, 3, none⟩, .int .i64 x3), (⟨w.heap.size, 4, none⟩, .int .i64 x4), (⟨w.heap.size + 1, 0, none⟩, .pointer (some ⟨w.heap.size, 0, none⟩)), (⟨w.heap.size + 1, 1, none⟩, .int .i64 1), (⟨w.heap.size + 1, 2, none⟩, .int .i64 2147483647), (⟨w.heap.size + 1, 3, none⟩, .pointer (some ⟨w.heap.size, 1, none⟩)), (⟨w.heap.size + 1, 4, none⟩, .int .i64 0), (⟨w.heap.size + 1, 5, none⟩, .int .i64 3), (⟨w.heap.size + 1, 6, none⟩, .pointer (some ⟨w.heap.size, 2, none⟩)), (⟨w.heap.size + 1, 7, none⟩, .int .i64 (-1)), (⟨w.heap.size + 1, 8, none⟩, .int .i64 2147483647), (⟨w.heap.size + 1, 9, none⟩, .pointer (some ⟨w.heap.size, 3, none⟩)), (⟨w.heap.size + 1, 10, none⟩, .int .i64 1), (⟨w.heap.size + 1, 11, none⟩, .int .i64 4), (⟨w.heap.size + 1, 12, none⟩, .pointer (some ⟨w.heap.size, 4, none⟩)), (⟨w.heap.size + 1, 13, none⟩, .int .i64 (-1048576)), (⟨w.heap.size + 1, 14, none⟩, .int .i64 1048576)]) (by repeat (first | with_reducible assumption | with_reducible apply Keeps.drew | with_reducible apply Keeps.alloc)) (by omega) (by simp) (by simp [List.forall_mem_cons]) (by simp [cellsAre_cons, cellsAre_nil, go_sem])) ?_
      intro w2 hk2
      clear hk h1 h3 h4
      generalize wr.heap.size = b at *
      simp only [List.cons_append, List.nil_append] at hk2
      have hB := h2
      clear h2
      obtain ⟨h1, h2, h3, h4⟩ := id hk2
      simp only [cellsAre_cons, cellsAre_nil, and_true] at h4
      refine wp_region_all (fun w' => Keeps (b + 1) [(⟨b, 0, none⟩, .pointer (some ⟨w.heap.size, 4, none⟩)), (⟨b, 1, none⟩, .int .i64 (-1048576)), (⟨b, 2, none⟩, .int .i64 1048576), (⟨w.heap.size, 0, none⟩, .int .i64 x0), (⟨w.heap.size, 1, none⟩, .int .i64 x1), (⟨w.heap.size, 2, none⟩, .int .i64 x2), (⟨w.heap.size, 3, none⟩, .int .i64 x3), (⟨w.heap.size, 4, none⟩, .int .i64 x4), (⟨w.heap.size + 1, 0, none⟩, .pointer (some ⟨w.heap.size, 0, none⟩)), (⟨w.heap.size + 1, 1, none⟩, .int .i64 1), (⟨w.heap.size + 1, 2, none⟩, .int .i64 2147483647), (⟨w.heap.size + 1, 3, none⟩, .pointer (some ⟨w.heap.size, 1, none⟩)), (⟨w.heap.size + 1, 4, none⟩, .int .i64 0), (⟨w.heap.size + 1, 5, none⟩, .int .i64 3), (⟨w.heap.size + 1, 6, none⟩, .pointer (some ⟨w.heap.size, 2, none⟩)), (⟨w.heap.size + 1, 7, none⟩, .int .i64 (-1)), (⟨w.heap.size + 1, 8, none⟩, .int .i64 2147483647), (⟨w.heap.size + 1, 9, none⟩, .pointer (some ⟨w.heap.size, 3, none⟩)), (⟨w.heap.size + 1, 10, none⟩, .int .i64 1), (⟨w.heap.size + 1, 11, none⟩, .int .i64 4), (⟨w.heap.size + 1, 12, none⟩, .pointer (some ⟨w.heap.size, 4, none⟩)), (⟨w.heap.size + 1, 13, none⟩, .int .i64 (-1048576)), (⟨w.heap.size + 1, 14, none⟩, .int .i64 1048576)] w w') (by kernel_rfl) (by kernel_rfl) (by with_reducible apply Keeps.drew; with_reducible assumption) rfl ?_
      intro K T hK hT hT'
      simp only [List.map] at hK ⊢
      go_wp2_with (first
        | (apply SeqD.skip; rfl; simp only [Act.put, List.setIfInBounds_toArray, List.set_cons_zero, List.set_cons_succ])
        | (apply SeqD.call; rfl; rfl; (intro w hw; obtain ⟨h1, h2, h3, h4⟩ := hT _ hw; simp only [cellsAre_cons, cellsAre_nil, and_true] at h4; go_simp; exact ⟨rfl, rfl⟩); (intro w hw; obtain ⟨h1, h2, h3, h4⟩ := hT _ hw; simp only [cellsAre_cons, cellsAre_nil, and_true] at h4; (first | fail)); simp only [Act.put, List.setIfInBounds_toArray, List.set_cons_zero, List.set_cons_succ])
        | (apply SeqD.pure; rfl; (intro w hw; obtain ⟨h1, h2, h3, h4⟩ := hT _ hw; simp only [cellsAre_cons, cellsAre_nil, and_true] at h4; go_simp; with_reducible rfl); simp only [Act.put, List.setIfInBounds_toArray, List.set_cons_zero, List.set_cons_succ])
        | (apply SeqD.split; rfl; rfl; all_goals (intro hc; simp only [hc]; try simp only [beq_iff_eq, decide_eq_true_eq, beq_eq_false_iff_ne, decide_eq_false_iff_not, bne_iff_ne, ne_eq, Bool.not_eq_true', Bool.not_eq_false', Int.not_le, Int.not_lt, bne_eq_false_iff_eq] at hc)))
      all_goals (apply SeqD.nil; refine hK _ ?_; clear h1 h2 h3 h4; intro w hw; obtain ⟨h1, h2, h3, h4⟩ := id hw; simp only [cellsAre_cons, cellsAre_nil, and_true] at h4; clear hT hT' hK)
      all_goals go_wp2
      all_goals first
        | (go_ret; refine ⟨ret_int ?_, h1⟩; rw [errOf, if_neg]; rw [HO.out, decide_eq_true_eq]; omega)
        | (go_roundw; (case rel => exact ⟨5, by omega, by go_num, by omega, hw.sub (by omega) (by simp [List.forall_mem_cons])⟩); (case measure => simp [intOf]))
    · have hk' := hk
      obtain ⟨h1, h2, h3, h4⟩ := hk'
      simp only [cellsAre_cons, cellsAre_nil, and_true] at h4
      go_wp2
      go_ret
      refine ⟨ret_int ?_, h1⟩
      rw [errOf, if_pos]
      rw [HO.out, decide_eq_true_eq]
      omega
end Go.Proofs.Ytifeokabecgimaa
