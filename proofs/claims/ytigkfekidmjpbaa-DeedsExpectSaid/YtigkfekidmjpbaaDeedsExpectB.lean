/-
  The walks over the statement 'DeedsExpect'.
-/
import Derived.Test.YtigkfekidmjpbaaProg
import Derived.Test.YtigkfekidmjpbaaSeq
import Derived.WalkKit
import Derived.WalkSpells
import Derived.WalkLawsBesides
import Derived.RowKit3
import Derived.Lib.Hide
import Derived.Test.YtigkfekidmjpbaaDeedsExpectW
import Derived.Test.YtigkfekidmjpbaaSeqF
set_option linter.unusedSimpArgs false
set_option linter.unusedVariables false
namespace Go.Proofs.Ytigkfekidmjpbaa
open Go.RowKit Go.Sq Go.Arch


set_option maxRecDepth 100000 in
set_option maxHeartbeats 8000000 in
theorem expect_B1 (t s v x0 x1 x2 x3 x4 y0 y1 y2 y3 y4 : Int) (c : Bool) (w : World) (hm : mayS ⟨t, c, s, v⟩ = true) (ca va cb vb : Int) (f1 : (ca != 1) = true) (f2 : (ca == 1) = false) (f3 : (ca != 2) = true)
    (HA : Hid (∀ w, Calls Try.prog 24 #[.agg #[.int .i64 t, .bool c, .int .i64 s, .int .i64 v], .agg #[.int .i64 x0, .int .i64 x1, .int .i64 v, .int .i64 x3, .int .i64 x4]] w fun e w' => e = .returned (.agg #[.int .i64 ca, .int .i64 va, .slice none 0 0]) ∧ Below w.heap.size w w'))
    (HB : Hid (∀ w, Calls Try.prog 24 #[.agg #[.int .i64 t, .bool c, .int .i64 s, .int .i64 v], .agg #[.int .i64 y0, .int .i64 y1, .int .i64 v, .int .i64 y3, .int .i64 y4]] w fun e w' => e = .returned (.agg #[.int .i64 cb, .int .i64 vb, .slice none 0 0]) ∧ Below w.heap.size w w'))
    (HC : Hid (∀ w, Calls Try.prog 24 #[.agg #[.int .i64 t, .bool c, .int .i64 s, .int .i64 v], .agg #[.int .i64 y0, .int .i64 y1, .int .i64 (-1), .int .i64 y3, .int .i64 y4]] w fun e w' => OutAny w w' e)) :
    Calls Try.prog 11 #[.agg #[.int .i64 t, .bool c, .int .i64 s, .int .i64 v], .agg #[.int .i64 x0, .int .i64 x1, .int .i64 x2, .int .i64 x3, .int .i64 x4], .agg #[.int .i64 y0, .int .i64 y1, .int .i64 y2, .int .i64 y3, .int .i64 y4]] w fun e w' => e = .returned (.bool true) ∧ Below w.heap.size w w' := by
  go_enter Try.func11, Try.ntmps11
  go_wp2_with fail
  refine (law_may _ _ _ _ _).mono ?_
  rintro e w1 ⟨rfl, hb⟩
  have hk_new : Keeps (w.heap.size + 3) [(⟨w.heap.size, 0, none⟩, .int .i64 t), (⟨w.heap.size, 1, none⟩, .bool c), (⟨w.heap.size, 2, none⟩, .int .i64 s), (⟨w.heap.size, 3, none⟩, .int .i64 v), (⟨w.heap.size + 1, 0, none⟩, .int .i64 x0), (⟨w.heap.size + 1, 1, none⟩, .int .i64 x1), (⟨w.heap.size + 1, 2, none⟩, .int .i64 x2), (⟨w.heap.size + 1, 3, none⟩, .int .i64 x3), (⟨w.heap.size + 1, 4, none⟩, .int .i64 x4), (⟨w.heap.size + 2, 0, none⟩, .int .i64 y0), (⟨w.heap.size + 2, 1, none⟩, .int .i64 y1), (⟨w.heap.size + 2, 2, none⟩, .int .i64 y2), (⟨w.heap.size + 2, 3, none⟩, .int .i64 y3), (⟨w.heap.size + 2, 4, none⟩, .int .i64 y4)] w w1 := by
    refine Keeps.below ⟨?_, by first | (simp; done) | (simp; omega) | omega, by first | (simp [List.forall_mem_cons]; done) | (simp [List.forall_mem_cons]; omega), by simp [cellsAre_cons, cellsAre_nil, go_sem, World.cell?_alloc_past, *]⟩ hb
    (repeat (first | with_reducible apply Below.drew | with_reducible refine Below.setCell ?_ (by first | exact Nat.le_refl _ | (simp; done) | (simp; omega) | omega) _ | with_reducible refine Below.alloc ?_ (by first | exact Nat.le_refl _ | (simp; done) | (simp; omega) | omega) _ | with_reducible exact Below.refl _ _ | with_reducible assumption))
  clear hb
  try clear hk
  have hk := hk_new
  clear hk_new
  have hk' := hk
  obtain ⟨h1, h2, h3, h4⟩ := hk'
  simp only [cellsAre_cons, cellsAre_nil, and_true] at h4
  go_wp2_with fail
  refine (HA.out _).mono ?_
  rintro e wa ⟨rfl, hb⟩
  have hk_new : Keeps (w.heap.size + 3) [(⟨w.heap.size, 0, none⟩, .int .i64 t), (⟨w.heap.size, 1, none⟩, .bool c), (⟨w.heap.size, 2, none⟩, .int .i64 s), (⟨w.heap.size, 3, none⟩, .int .i64 v), (⟨w.heap.size + 1, 0, none⟩, .int .i64 x0), (⟨w.heap.size + 1, 1, none⟩, .int .i64 x1), (⟨w.heap.size + 1, 2, none⟩, .int .i64 v), (⟨w.heap.size + 1, 3, none⟩, .int .i64 x3), (⟨w.heap.size + 1, 4, none⟩, .int .i64 x4), (⟨w.heap.size + 2, 0, none⟩, .int .i64 y0), (⟨w.heap.size + 2, 1, none⟩, .int .i64 y1), (⟨w.heap.size + 2, 2, none⟩, .int .i64 v), (⟨w.heap.size + 2, 3, none⟩, .int .i64 y3), (⟨w.heap.size + 2, 4, none⟩, .int .i64 y4)] w wa := by
    refine Keeps.below ⟨?_, by first | (simp; done) | (simp; omega) | omega, by first | (simp [List.forall_mem_cons]; done) | (simp [List.forall_mem_cons]; omega), by simp [cellsAre_cons, cellsAre_nil, go_sem, World.cell?_alloc_past, *]⟩ hb
    (repeat (first | with_reducible apply Below.drew | with_reducible refine Below.setCell ?_ (by first | exact Nat.le_refl _ | (simp; done) | (simp; omega) | omega) _ | with_reducible refine Below.alloc ?_ (by first | exact Nat.le_refl _ | (simp; done) | (simp; omega) | omega) _ | with_reducible exact Below.refl _ _ | with_reducible assumption))
  clear hb
  try clear hk
  have hk := hk_new
  clear hk_new
  clear h1 h2 h3 h4
  have hk' := hk
  obtain ⟨h1, h2, h3, h4⟩ := hk'
  simp only [cellsAre_cons, cellsAre_nil, and_true] at h4
  have lta_0 : w.heap.size < wa.heap.size := by omega
  have nea_0 : ¬ w.heap.size = wa.heap.size := by omega
  have nfa_0 : ¬ wa.heap.size = w.heap.size := by omega
  have lta_1 : w.heap.size + 1 < wa.heap.size := by omega
  have nea_1 : ¬ w.heap.size + 1 = wa.heap.size := by omega
  have nfa_1 : ¬ wa.heap.size = w.heap.size + 1 := by omega
  have lta_2 : w.heap.size + 2 < wa.heap.size := by omega
  have nea_2 : ¬ w.heap.size + 2 = wa.heap.size := by omega
  have nfa_2 : ¬ wa.heap.size = w.heap.size + 2 := by omega
  have h2a := h2
  go_wp2_with fail
  refine wp_region_fl 5 1 (.cells ([.int .i64 0, .int .i64 0, .slice none 0 0] : List Value).toArray 55) (wa.heap.size + 1) (fun w' => Keeps (wa.heap.size + 1) [(⟨wa.heap.size, 0, none⟩, .int .i64 ca), (⟨wa.heap.size, 1, none⟩, .int .i64 va), (⟨wa.heap.size, 2, none⟩, .slice none 0 0), (⟨w.heap.size, 0, none⟩, .int .i64 t), (⟨w.heap.size, 1, none⟩, .bool c), (⟨w.heap.size, 2, none⟩, .int .i64 s), (⟨w.heap.size, 3, none⟩, .int .i64 v), (⟨w.heap.size + 1, 0, none⟩, .int .i64 x0), (⟨w.heap.size + 1, 1, none⟩, .int .i64 x1), (⟨w.heap.size + 1, 2, none⟩, .int .i64 v), (⟨w.heap.size + 1, 3, none⟩, .int .i64 x3), (⟨w.heap.size + 1, 4, none⟩, .int .i64 x4), (⟨w.heap.size + 2, 0, none⟩, .int .i64 y0), (⟨w.heap.size + 2, 1, none⟩, .int .i64 y1), (⟨w.heap.size + 2, 2, none⟩, .int .i64 v), (⟨w.heap.size + 2, 3, none⟩, .int .i64 y3), (⟨w.heap.size + 2, 4, none⟩, .int .i64 y4)] w w') (by kernel_rfl) (by kernel_rfl) rfl (by kernel_rfl) (by kernel_rfl) (by kernel_rfl) (by kernel_rfl) (by kernel_rfl) rfl ?_ (fun _ h => h.alloc _) (fun _ h => h.2.1) (by refine ⟨?_, by first | (simp; done) | (simp; omega) | omega, by first | (simp [List.forall_mem_cons]; done) | (simp [List.forall_mem_cons]; omega), by simp [cellsAre_cons, cellsAre_nil, go_sem, World.cell?_alloc_past, *]⟩; (repeat (first | with_reducible apply Below.drew | with_reducible refine Below.setCell ?_ (by first | exact Nat.le_refl _ | (simp; done) | (simp; omega) | omega) _ | with_reducible refine Below.alloc ?_ (by first | exact Nat.le_refl _ | (simp; done) | (simp; omega) | omega) _ | with_reducible exact Below.refl _ _ | with_reducible assumption))) rfl ?_
  · intro ρ w'
    go_simp
  intro K T hK hT hT'
  simp only [List.map, List.take, List.drop] at hK ⊢
  go_wp2_with (first
    | (apply SeqB.skip; rfl; simp only [Act.put, List.setIfInBounds_toArray, List.set_cons_zero, List.set_cons_succ])
    | (apply SeqB.call; rfl; rfl; (intro w2 hw; obtain ⟨h1, h2, h3, h4⟩ := hT _ hw; simp only [cellsAre_cons, cellsAre_nil, and_true] at h4; (skip); go_simp; exact ⟨rfl, rfl⟩); (intro w2 hw; obtain ⟨h1, h2, h3, h4⟩ := hT _ hw; simp only [cellsAre_cons, cellsAre_nil, and_true] at h4; (skip); (first | (go_at_call 31; refine (behind_nil _ _ _ _ _ _ _).mono ?_; rintro e w' ⟨rfl, hb⟩; exact ⟨rfl, hT' _ ((hT _ hw).below hb), hb⟩) | (go_at_call 24; refine (HB.out _).mono ?_; rintro e w' ⟨rfl, hb⟩; exact ⟨rfl, hT' _ ((hT _ hw).below hb), hb⟩))); simp only [Act.put, List.setIfInBounds_toArray, List.set_cons_zero, List.set_cons_succ])
    | (apply SeqB.pure; rfl; (intro w2 hw; obtain ⟨h1, h2, h3, h4⟩ := hT _ hw; simp only [cellsAre_cons, cellsAre_nil, and_true] at h4; (skip); go_simp; with_reducible rfl); simp only [Act.put, List.setIfInBounds_toArray, List.set_cons_zero, List.set_cons_succ])
    | (apply SeqB.split; rfl; rfl; all_goals (intro hc; simp only [hc]; try simp only [beq_iff_eq, decide_eq_true_eq, beq_eq_false_iff_ne, decide_eq_false_iff_not, bne_iff_ne, ne_eq, Bool.not_eq_true', Bool.not_eq_false', Int.not_le, Int.not_lt, bne_eq_false_iff_eq] at hc)))
  all_goals (apply SeqB.nil; refine hK _ ?_; clear hT hT' hK; intro b w2 hbB hw hbo; obtain ⟨h1, h2, h3, h4⟩ := id hw; simp only [cellsAre_cons, cellsAre_nil, and_true] at h4; have hnb := cellsAre_block hbo; have hbs : b < w2.heap.size := (Array.getElem?_eq_some_iff.1 hbo).1; simp only [List.zipIdx_cons, List.zipIdx_nil, List.map_cons, List.map_nil, cellsAre_cons, cellsAre_nil, and_true, Nat.zero_add, Nat.reduceAdd] at hnb; clear hbo; simp only [Act.put, List.setIfInBounds_toArray, List.set_cons_zero, List.set_cons_succ])
  clear lta_0 lta_1 lta_2
  generalize wa.heap.size = b1 at *
  have nq0 : ¬ w.heap.size = b := by omega
  have nq1 : ¬ w.heap.size + 1 = b := by omega
  have nq2 : ¬ w.heap.size + 2 = b := by omega
  have nq2' : ¬ w.heap.size + 1 + 1 = b := by omega
  have nq4 : ¬ b1 = b := by omega
  have mq0 : ¬ b = w.heap.size := by omega
  have mq1 : ¬ b = w.heap.size + 1 := by omega
  have mq2 : ¬ b = w.heap.size + 2 := by omega
  have mq2' : ¬ b = w.heap.size + 1 + 1 := by omega
  have mq4 : ¬ b = b1 := by omega
  go_wp2_with fail
  refine abs_code (fun w' => Keeps (b + 1) [(⟨b, 0, none⟩, .int .i64 cb), (⟨b, 1, none⟩, .int .i64 vb), (⟨b, 2, none⟩, .slice none 0 0), (⟨b1, 0, none⟩, .int .i64 ca), (⟨b1, 1, none⟩, .int .i64 va), (⟨b1, 2, none⟩, .slice none 0 0), (⟨w.heap.size, 0, none⟩, .int .i64 t), (⟨w.heap.size, 1, none⟩, .bool c), (⟨w.heap.size, 2, none⟩, .int .i64 s), (⟨w.heap.size, 3, none⟩, .int .i64 v), (⟨w.heap.size + 1, 0, none⟩, .int .i64 x0), (⟨w.heap.size + 1, 1, none⟩, .int .i64 x1), (⟨w.heap.size + 1, 2, none⟩, .int .i64 v), (⟨w.heap.size + 1, 3, none⟩, .int .i64 x3), (⟨w.heap.size + 1, 4, none⟩, .int .i64 x4), (⟨w.heap.size + 2, 0, none⟩, .int .i64 y0), (⟨w.heap.size + 2, 1, none⟩, .int .i64 y1), (⟨w.heap.size + 2, 2, none⟩, .int .i64 v), (⟨w.heap.size + 2, 3, none⟩, .int .i64 y3), (⟨w.heap.size + 2, 4, none⟩, .int .i64 y4)] w w') (by refine ⟨?_, by first | (simp; done) | (simp; omega) | omega, by first | (simp [List.forall_mem_cons]; done) | (simp [List.forall_mem_cons]; omega), by simp [cellsAre_cons, cellsAre_nil, go_sem, *]⟩; (repeat (first | with_reducible apply Below.drew | with_reducible refine Below.setCell ?_ (by first | exact Nat.le_refl _ | (simp; done) | (simp; omega) | omega) _ | with_reducible refine Below.alloc ?_ (by first | exact Nat.le_refl _ | (simp; done) | (simp; omega) | omega) _ | with_reducible exact Below.refl _ _ | with_reducible assumption))) ?_
  intro w4 hk4
  clear hnb hbs h1 h2 h3 h4 hw
  refine wp_region_all (fun w' => Keeps (b + 1) [(⟨b, 0, none⟩, .int .i64 cb), (⟨b, 1, none⟩, .int .i64 vb), (⟨b, 2, none⟩, .slice none 0 0), (⟨b1, 0, none⟩, .int .i64 ca), (⟨b1, 1, none⟩, .int .i64 va), (⟨b1, 2, none⟩, .slice none 0 0), (⟨w.heap.size, 0, none⟩, .int .i64 t), (⟨w.heap.size, 1, none⟩, .bool c), (⟨w.heap.size, 2, none⟩, .int .i64 s), (⟨w.heap.size, 3, none⟩, .int .i64 v), (⟨w.heap.size + 1, 0, none⟩, .int .i64 x0), (⟨w.heap.size + 1, 1, none⟩, .int .i64 x1), (⟨w.heap.size + 1, 2, none⟩, .int .i64 v), (⟨w.heap.size + 1, 3, none⟩, .int .i64 x3), (⟨w.heap.size + 1, 4, none⟩, .int .i64 x4), (⟨w.heap.size + 2, 0, none⟩, .int .i64 y0), (⟨w.heap.size + 2, 1, none⟩, .int .i64 y1), (⟨w.heap.size + 2, 2, none⟩, .int .i64 v), (⟨w.heap.size + 2, 3, none⟩, .int .i64 y3), (⟨w.heap.size + 2, 4, none⟩, .int .i64 y4)] w w') (by kernel_rfl) (by kernel_rfl) (by with_reducible apply Keeps.drew; with_reducible assumption) rfl ?_
  intro K T hK hT hT'
  simp only [List.map] at hK ⊢
  go_wp2_with (first
    | (apply SeqD.skip; rfl; simp only [Act.put, List.setIfInBounds_toArray, List.set_cons_zero, List.set_cons_succ])
    | (apply SeqD.call; rfl; rfl; (intro w2 hw; obtain ⟨h1, h2, h3, h4⟩ := hT _ hw; simp only [cellsAre_cons, cellsAre_nil, and_true] at h4; (skip); go_simp; exact ⟨rfl, rfl⟩); (intro w2 hw; obtain ⟨h1, h2, h3, h4⟩ := hT _ hw; simp only [cellsAre_cons, cellsAre_nil, and_true] at h4; (skip); (first | (go_at_call 24; refine (HB.out _).mono ?_; rintro e w' ⟨rfl, hb⟩; exact ⟨rfl, hT' _ ((hT _ hw).below hb)⟩) | (go_at_call 26; refine (same_nil _ _ _).mono ?_; rintro e w' ⟨rfl, hb⟩; exact ⟨rfl, hT' _ ((hT _ hw).below hb)⟩))); simp only [Act.put, List.setIfInBounds_toArray, List.set_cons_zero, List.set_cons_succ])
    | (apply SeqD.pure; rfl; (intro w2 hw; obtain ⟨h1, h2, h3, h4⟩ := hT _ hw; simp only [cellsAre_cons, cellsAre_nil, and_true] at h4; (skip); go_simp; with_reducible rfl); simp only [Act.put, List.setIfInBounds_toArray, List.set_cons_zero, List.set_cons_succ])
    | (apply SeqD.split; rfl; rfl; all_goals (intro hc; simp only [hc]; try simp only [beq_iff_eq, decide_eq_true_eq, beq_eq_false_iff_ne, decide_eq_false_iff_not, bne_iff_ne, ne_eq, Bool.not_eq_true', Bool.not_eq_false', Int.not_le, Int.not_lt, bne_eq_false_iff_eq] at hc)))
  all_goals (apply SeqD.nil; refine hK _ ?_; intro w2 hw; obtain ⟨h1, h2, h3, h4⟩ := id hw; simp only [cellsAre_cons, cellsAre_nil, and_true] at h4; clear hT hT' hK)
  go_wp2_with fail
  refine (HC.out _).mono ?_
  rintro e w5 ⟨cc, vc, sa, sn, sm, rfl, hcc, hb⟩
  have hcc2 : (cc != 2) = true := hcc
  have hk_new : Keeps (b + 1) [(⟨b, 0, none⟩, .int .i64 cb), (⟨b, 1, none⟩, .int .i64 vb), (⟨b, 2, none⟩, .slice none 0 0), (⟨b1, 0, none⟩, .int .i64 ca), (⟨b1, 1, none⟩, .int .i64 va), (⟨b1, 2, none⟩, .slice none 0 0), (⟨w.heap.size, 0, none⟩, .int .i64 t), (⟨w.heap.size, 1, none⟩, .bool c), (⟨w.heap.size, 2, none⟩, .int .i64 s), (⟨w.heap.size, 3, none⟩, .int .i64 v), (⟨w.heap.size + 1, 0, none⟩, .int .i64 x0), (⟨w.heap.size + 1, 1, none⟩, .int .i64 x1), (⟨w.heap.size + 1, 2, none⟩, .int .i64 v), (⟨w.heap.size + 1, 3, none⟩, .int .i64 x3), (⟨w.heap.size + 1, 4, none⟩, .int .i64 x4), (⟨w.heap.size + 2, 0, none⟩, .int .i64 y0), (⟨w.heap.size + 2, 1, none⟩, .int .i64 y1), (⟨w.heap.size + 2, 2, none⟩, .int .i64 (-1)), (⟨w.heap.size + 2, 3, none⟩, .int .i64 y3), (⟨w.heap.size + 2, 4, none⟩, .int .i64 y4)] w w5 := by
    refine Keeps.below ⟨?_, by first | (simp; done) | (simp; omega) | omega, by first | (simp [List.forall_mem_cons]; done) | (simp [List.forall_mem_cons]; omega), by simp [cellsAre_cons, cellsAre_nil, go_sem, World.cell?_alloc_past, *]⟩ hb
    (repeat (first | with_reducible apply Below.drew | with_reducible refine Below.setCell ?_ (by first | exact Nat.le_refl _ | (simp; done) | (simp; omega) | omega) _ | with_reducible refine Below.alloc ?_ (by first | exact Nat.le_refl _ | (simp; done) | (simp; omega) | omega) _ | with_reducible exact Below.refl _ _ | with_reducible assumption))
  clear hb
  try clear hk
  have hk := hk_new
  clear hk_new
  clear h1 h2 h3 h4
  have hk' := hk
  obtain ⟨h1, h2, h3, h4⟩ := hk'
  simp only [cellsAre_cons, cellsAre_nil, and_true] at h4
  have ltu_0 : w.heap.size < w5.heap.size := by omega
  have neu_0 : ¬ w.heap.size = w5.heap.size := by omega
  have nfu_0 : ¬ w5.heap.size = w.heap.size := by omega
  have ltu_1 : w.heap.size + 1 < w5.heap.size := by omega
  have neu_1 : ¬ w.heap.size + 1 = w5.heap.size := by omega
  have nfu_1 : ¬ w5.heap.size = w.heap.size + 1 := by omega
  have ltu_2 : w.heap.size + 2 < w5.heap.size := by omega
  have neu_2 : ¬ w.heap.size + 2 = w5.heap.size := by omega
  have nfu_2 : ¬ w5.heap.size = w.heap.size + 2 := by omega
  have ltu_3 : b1 < w5.heap.size := by omega
  have neu_3 : ¬ b1 = w5.heap.size := by omega
  have nfu_3 : ¬ w5.heap.size = b1 := by omega
  have ltu_4 : b < w5.heap.size := by omega
  have neu_4 : ¬ b = w5.heap.size := by omega
  have nfu_4 : ¬ w5.heap.size = b := by omega
  have h2u := h2
  go_wp2_with fail
  refine (works_any _).mono ?_
  rintro e w9 ⟨rfl, hb⟩
  have hbl : Below w.heap.size w w9 := by
    refine Below.trans ?_ (hb.mono (by simp; omega))
    (repeat (first | with_reducible apply Below.drew | with_reducible refine Below.setCell ?_ (by first | exact Nat.le_refl _ | (simp; done) | (simp; omega) | omega) _ | with_reducible refine Below.alloc ?_ (by first | exact Nat.le_refl _ | (simp; done) | (simp; omega) | omega) _ | with_reducible exact Below.refl _ _ | with_reducible assumption))
  go_wp2_with fail
  go_ret
  exact ⟨rfl, hbl⟩
end Go.Proofs.Ytigkfekidmjpbaa
