/-
  The walks over the aggregates: 'deeds.of', 'may'.
-/
import Derived.Test.YtifeokabecgimaaProg
import Derived.Test.YtifeokabecgimaaSeq
import Derived.WalkKit
import Derived.WalkSpells
import Derived.WalkLawsBesides
import Derived.RowKit3
import Derived.Lib.Hide
import Derived.Test.YtifeokabecgimaaDeedsSpec
set_option linter.unusedSimpArgs false
set_option linter.unusedVariables false
set_option maxRecDepth 100000
namespace Go.Proofs.Ytifeokabecgimaa
open Go.RowKit Go.Sq Go.Arch

theorem of_none (t : Int) (w : World) (h : t < 1 ∨ 3 < t) :
    Calls Try.prog 39 #[.int .i64 t] w fun e w' => e = .returned .nilIface ∧ w = w' := by
  have h1 : (t == 1) = false := by simp; omega
  have h2 : (t == 2) = false := by simp; omega
  have h3 : (t == 3) = false := by simp; omega
  go_enter Try.func39, Try.ntmps39
  go_wp2
  go_ret
  exact ⟨rfl, rfl⟩
theorem of_1 (w : World) : Calls Try.prog 39 #[.int .i64 1] w fun e w' => e = .returned (.iface 100 (.agg #[])) ∧ w = w' := by
  go_enter Try.func39, Try.ntmps39
  go_wp2
  go_ret
  exact ⟨rfl, rfl⟩
theorem of_2 (w : World) : Calls Try.prog 39 #[.int .i64 2] w fun e w' => e = .returned (.iface 102 (.agg #[])) ∧ w = w' := by
  go_enter Try.func39, Try.ntmps39
  go_wp2
  go_ret
  exact ⟨rfl, rfl⟩
theorem of_3 (w : World) : Calls Try.prog 39 #[.int .i64 3] w fun e w' => e = .returned (.iface 104 (.agg #[])) ∧ w = w' := by
  go_enter Try.func39, Try.ntmps39
  go_wp2
  go_ret
  exact ⟨rfl, rfl⟩

theorem method_1 (n : Nat) (w : World) : (method (n + 1) 100 (.agg #[]) "archipelago/deeds.least").run Try.prog w = .ok (67, .agg #[]) w := by kernel_rfl
theorem method_2 (n : Nat) (w : World) : (method (n + 1) 102 (.agg #[]) "archipelago/deeds.least").run Try.prog w = .ok (69, .agg #[]) w := by kernel_rfl
theorem method_3 (n : Nat) (w : World) : (method (n + 1) 104 (.agg #[]) "archipelago/deeds.least").run Try.prog w = .ok (69, .agg #[]) w := by kernel_rfl
theorem taken_1 (n : Nat) (w : World) : (method (n + 1) 100 (.agg #[]) "archipelago/deeds.taken").run Try.prog w = .ok (68, .agg #[]) w := by kernel_rfl
theorem taken_2 (n : Nat) (w : World) : (method (n + 1) 102 (.agg #[]) "archipelago/deeds.taken").run Try.prog w = .ok (70, .agg #[]) w := by kernel_rfl
theorem taken_3 (n : Nat) (w : World) : (method (n + 1) 104 (.agg #[]) "archipelago/deeds.taken").run Try.prog w = .ok (71, .agg #[]) w := by kernel_rfl
theorem count_least (w : World) : Calls Try.prog 67 #[.agg #[]] w fun e w' => e = .returned (.int .i64 (-1099511627776)) ∧ Below w.heap.size w w' := by
  go_enter Try.func67, Try.ntmps67
  go_wp2
  go_ret
  exact ⟨rfl, by (repeat (first | with_reducible apply Below.drew | with_reducible refine Below.setCell ?_ (by first | exact Nat.le_refl _ | (simp; done) | (simp; omega) | omega) _ | with_reducible refine Below.alloc ?_ (by first | exact Nat.le_refl _ | (simp; done) | (simp; omega) | omega) _ | with_reducible exact Below.refl _ _ | with_reducible assumption))⟩
theorem purse_least (w : World) : Calls Try.prog 69 #[.agg #[]] w fun e w' => e = .returned (.int .i64 0) ∧ Below w.heap.size w w' := by
  go_enter Try.func69, Try.ntmps69
  go_wp2
  go_ret
  exact ⟨rfl, by (repeat (first | with_reducible apply Below.drew | with_reducible refine Below.setCell ?_ (by first | exact Nat.le_refl _ | (simp; done) | (simp; omega) | omega) _ | with_reducible refine Below.alloc ?_ (by first | exact Nat.le_refl _ | (simp; done) | (simp; omega) | omega) _ | with_reducible exact Below.refl _ _ | with_reducible assumption))⟩
theorem count_taken (s : Int) (h : -1099511627776 ≤ s ∧ s ≤ 1099511627776) (w : World) : Calls Try.prog 68 #[.agg #[], .int .i64 s] w fun e w' => e = .returned (.int .i64 (s + 1099511627776)) ∧ Below w.heap.size w w' := by
  obtain ⟨h1, h2⟩ := h
  go_enter Try.func68, Try.ntmps68
  go_wp2
  go_ret
  exact ⟨rfl, by (repeat (first | with_reducible apply Below.drew | with_reducible refine Below.setCell ?_ (by first | exact Nat.le_refl _ | (simp; done) | (simp; omega) | omega) _ | with_reducible refine Below.alloc ?_ (by first | exact Nat.le_refl _ | (simp; done) | (simp; omega) | omega) _ | with_reducible exact Below.refl _ _ | with_reducible assumption))⟩
theorem purse_taken (s : Int) (w : World) : Calls Try.prog 70 #[.agg #[], .int .i64 s] w fun e w' => e = .returned (.int .i64 s) ∧ Below w.heap.size w w' := by
  go_enter Try.func70, Try.ntmps70
  go_wp2
  go_ret
  exact ⟨rfl, by (repeat (first | with_reducible apply Below.drew | with_reducible refine Below.setCell ?_ (by first | exact Nat.le_refl _ | (simp; done) | (simp; omega) | omega) _ | with_reducible refine Below.alloc ?_ (by first | exact Nat.le_refl _ | (simp; done) | (simp; omega) | omega) _ | with_reducible exact Below.refl _ _ | with_reducible assumption))⟩
theorem tally_taken (s : Int) (w : World) : Calls Try.prog 71 #[.agg #[], .int .i64 s] w fun e w' => e = .returned (.int .i64 0) ∧ Below w.heap.size w w' := by
  go_enter Try.func71, Try.ntmps71
  go_wp2
  go_ret
  exact ⟨rfl, by (repeat (first | with_reducible apply Below.drew | with_reducible refine Below.setCell ?_ (by first | exact Nat.le_refl _ | (simp; done) | (simp; omega) | omega) _ | with_reducible refine Below.alloc ?_ (by first | exact Nat.le_refl _ | (simp; done) | (simp; omega) | omega) _ | with_reducible exact Below.refl _ _ | with_reducible assumption))⟩
set_option maxHeartbeats 1000000 in
theorem may_none (t s v : Int) (c : Bool) (w : World) (h : t < 1 ∨ 3 < t) :
    Calls Try.prog 38 #[.agg #[.int .i64 t, .bool c, .int .i64 s, .int .i64 v]] w fun e w' => e = .returned (.bool (mayS ⟨t, c, s, v⟩)) ∧ Below w.heap.size w w' := by
  go_enter Try.func38, Try.ntmps38
  go_wp2_with (go_at_call 39; refine (of_none _ _ h).mono ?_; rintro e w' ⟨rfl, rfl⟩)
  all_goals (go_ret; refine ⟨ret_bool ?_, by (repeat (first | with_reducible apply Below.drew | with_reducible refine Below.setCell ?_ (by first | exact Nat.le_refl _ | (simp; done) | (simp; omega) | omega) _ | with_reducible refine Below.alloc ?_ (by first | exact Nat.le_refl _ | (simp; done) | (simp; omega) | omega) _ | with_reducible exact Below.refl _ _ | with_reducible assumption))⟩; rw [mayS_zero h]; simp [*])

set_option maxHeartbeats 1000000 in
theorem may_1 (s v : Int) (c : Bool) (w : World) :
    Calls Try.prog 38 #[.agg #[.int .i64 1, .bool c, .int .i64 s, .int .i64 v]] w fun e w' => e = .returned (.bool (mayS ⟨1, c, s, v⟩)) ∧ Below w.heap.size w w' := by
  go_enter Try.func38, Try.ntmps38
  go_wp2_with (go_at_call 39; refine (of_1 _).mono ?_; rintro e w' ⟨rfl, rfl⟩)
  have hm := method_1
  refine wp_region_all (fun w' => Keeps (w.heap.size + 1) [(⟨w.heap.size, 0, none⟩, .int .i64 1), (⟨w.heap.size, 1, none⟩, .bool c), (⟨w.heap.size, 2, none⟩, .int .i64 s), (⟨w.heap.size, 3, none⟩, .int .i64 v)] w w') (by kernel_rfl) (by kernel_rfl) ?_ rfl ?_
  · refine ⟨?_, by simp, by simp [List.forall_mem_cons], by simp [cellsAre_cons, cellsAre_nil, go_sem, World.cell?_alloc_past]⟩
    (try simp only [World.drewN])
    (repeat (first | with_reducible apply Below.drew | with_reducible refine Below.setCell ?_ (by first | exact Nat.le_refl _ | (simp; done) | (simp; omega) | omega) _ | with_reducible refine Below.alloc ?_ (by first | exact Nat.le_refl _ | (simp; done) | (simp; omega) | omega) _ | with_reducible exact Below.refl _ _ | with_reducible assumption))
  intro K T hK hT hT'
  simp only [List.map] at hK ⊢
  go_wp2_with (first
    | (apply SeqD.skip; rfl; simp only [Act.put, List.setIfInBounds_toArray, List.set_cons_zero, List.set_cons_succ])
    | (apply SeqD.call; rfl; rfl; (intro w hw; obtain ⟨h1, h2, h3, h4⟩ := hT _ hw; simp only [cellsAre_cons, cellsAre_nil, and_true] at h4;  go_simp; exact ⟨rfl, rfl⟩); (intro w hw; obtain ⟨h1, h2, h3, h4⟩ := hT _ hw; simp only [cellsAre_cons, cellsAre_nil, and_true] at h4; (first | (go_at_call 67; refine (count_least _).mono ?_; rintro e w' ⟨rfl, hb⟩; exact ⟨rfl, hT' _ ((hT _ hw).below hb)⟩))); simp only [Act.put, List.setIfInBounds_toArray, List.set_cons_zero, List.set_cons_succ])
    | (apply SeqD.pure; rfl; (intro w hw; obtain ⟨h1, h2, h3, h4⟩ := hT _ hw; simp only [cellsAre_cons, cellsAre_nil, and_true] at h4; go_simp; with_reducible rfl); simp only [Act.put, List.setIfInBounds_toArray, List.set_cons_zero, List.set_cons_succ])
    | (apply SeqD.split; rfl; rfl; all_goals (intro hc; simp only [hc]; try simp only [beq_iff_eq, decide_eq_true_eq, beq_eq_false_iff_ne, decide_eq_false_iff_not, bne_iff_ne, ne_eq, Bool.not_eq_true', Bool.not_eq_false', Int.not_le, Int.not_lt, bne_eq_false_iff_eq] at hc)))
  all_goals (apply SeqD.nil; refine hK _ ?_; intro w hw; obtain ⟨h1, h2, h3, h4⟩ := hw; simp only [cellsAre_cons, cellsAre_nil, and_true] at h4; clear hT hT' hK)
  all_goals (go_wp2; go_ret; refine ⟨ret_bool ?_, h1⟩; rw [mayS_some (by simp)]; clear h1 h2 h3 h4 hm)
  all_goals (rw [Bool.eq_iff_iff]; simp [leastS] at *; (try simp [*]); (try omega))

set_option maxHeartbeats 1000000 in
theorem may_2 (s v : Int) (c : Bool) (w : World) :
    Calls Try.prog 38 #[.agg #[.int .i64 2, .bool c, .int .i64 s, .int .i64 v]] w fun e w' => e = .returned (.bool (mayS ⟨2, c, s, v⟩)) ∧ Below w.heap.size w w' := by
  go_enter Try.func38, Try.ntmps38
  go_wp2_with (go_at_call 39; refine (of_2 _).mono ?_; rintro e w' ⟨rfl, rfl⟩)
  have hm := method_2
  refine wp_region_all (fun w' => Keeps (w.heap.size + 1) [(⟨w.heap.size, 0, none⟩, .int .i64 2), (⟨w.heap.size, 1, none⟩, .bool c), (⟨w.heap.size, 2, none⟩, .int .i64 s), (⟨w.heap.size, 3, none⟩, .int .i64 v)] w w') (by kernel_rfl) (by kernel_rfl) ?_ rfl ?_
  · refine ⟨?_, by simp, by simp [List.forall_mem_cons], by simp [cellsAre_cons, cellsAre_nil, go_sem, World.cell?_alloc_past]⟩
    (try simp only [World.drewN])
    (repeat (first | with_reducible apply Below.drew | with_reducible refine Below.setCell ?_ (by first | exact Nat.le_refl _ | (simp; done) | (simp; omega) | omega) _ | with_reducible refine Below.alloc ?_ (by first | exact Nat.le_refl _ | (simp; done) | (simp; omega) | omega) _ | with_reducible exact Below.refl _ _ | with_reducible assumption))
  intro K T hK hT hT'
  simp only [List.map] at hK ⊢
  go_wp2_with (first
    | (apply SeqD.skip; rfl; simp only [Act.put, List.setIfInBounds_toArray, List.set_cons_zero, List.set_cons_succ])
    | (apply SeqD.call; rfl; rfl; (intro w hw; obtain ⟨h1, h2, h3, h4⟩ := hT _ hw; simp only [cellsAre_cons, cellsAre_nil, and_true] at h4;  go_simp; exact ⟨rfl, rfl⟩); (intro w hw; obtain ⟨h1, h2, h3, h4⟩ := hT _ hw; simp only [cellsAre_cons, cellsAre_nil, and_true] at h4; (first | (go_at_call 69; refine (purse_least _).mono ?_; rintro e w' ⟨rfl, hb⟩; exact ⟨rfl, hT' _ ((hT _ hw).below hb)⟩))); simp only [Act.put, List.setIfInBounds_toArray, List.set_cons_zero, List.set_cons_succ])
    | (apply SeqD.pure; rfl; (intro w hw; obtain ⟨h1, h2, h3, h4⟩ := hT _ hw; simp only [cellsAre_cons, cellsAre_nil, and_true] at h4; go_simp; with_reducible rfl); simp only [Act.put, List.setIfInBounds_toArray, List.set_cons_zero, List.set_cons_succ])
    | (apply SeqD.split; rfl; rfl; all_goals (intro hc; simp only [hc]; try simp only [beq_iff_eq, decide_eq_true_eq, beq_eq_false_iff_ne, decide_eq_false_iff_not, bne_iff_ne, ne_eq, Bool.not_eq_true', Bool.not_eq_false', Int.not_le, Int.not_lt, bne_eq_false_iff_eq] at hc)))
  all_goals (apply SeqD.nil; refine hK _ ?_; intro w hw; obtain ⟨h1, h2, h3, h4⟩ := hw; simp only [cellsAre_cons, cellsAre_nil, and_true] at h4; clear hT hT' hK)
  all_goals (go_wp2; go_ret; refine ⟨ret_bool ?_, h1⟩; rw [mayS_some (by simp)]; clear h1 h2 h3 h4 hm)
  all_goals (rw [Bool.eq_iff_iff]; simp [leastS] at *; (try simp [*]); (try omega))

set_option maxHeartbeats 1000000 in
theorem may_3 (s v : Int) (c : Bool) (w : World) :
    Calls Try.prog 38 #[.agg #[.int .i64 3, .bool c, .int .i64 s, .int .i64 v]] w fun e w' => e = .returned (.bool (mayS ⟨3, c, s, v⟩)) ∧ Below w.heap.size w w' := by
  go_enter Try.func38, Try.ntmps38
  go_wp2_with (go_at_call 39; refine (of_3 _).mono ?_; rintro e w' ⟨rfl, rfl⟩)
  have hm := method_3
  refine wp_region_all (fun w' => Keeps (w.heap.size + 1) [(⟨w.heap.size, 0, none⟩, .int .i64 3), (⟨w.heap.size, 1, none⟩, .bool c), (⟨w.heap.size, 2, none⟩, .int .i64 s), (⟨w.heap.size, 3, none⟩, .int .i64 v)] w w') (by kernel_rfl) (by kernel_rfl) ?_ rfl ?_
  · refine ⟨?_, by simp, by simp [List.forall_mem_cons], by simp [cellsAre_cons, cellsAre_nil, go_sem, World.cell?_alloc_past]⟩
    (try simp only [World.drewN])
    (repeat (first | with_reducible apply Below.drew | with_reducible refine Below.setCell ?_ (by first | exact Nat.le_refl _ | (simp; done) | (simp; omega) | omega) _ | with_reducible refine Below.alloc ?_ (by first | exact Nat.le_refl _ | (simp; done) | (simp; omega) | omega) _ | with_reducible exact Below.refl _ _ | with_reducible assumption))
  intro K T hK hT hT'
  simp only [List.map] at hK ⊢
  go_wp2_with (first
    | (apply SeqD.skip; rfl; simp only [Act.put, List.setIfInBounds_toArray, List.set_cons_zero, List.set_cons_succ])
    | (apply SeqD.call; rfl; rfl; (intro w hw; obtain ⟨h1, h2, h3, h4⟩ := hT _ hw; simp only [cellsAre_cons, cellsAre_nil, and_true] at h4;  go_simp; exact ⟨rfl, rfl⟩); (intro w hw; obtain ⟨h1, h2, h3, h4⟩ := hT _ hw; simp only [cellsAre_cons, cellsAre_nil, and_true] at h4; (first | (go_at_call 69; refine (purse_least _).mono ?_; rintro e w' ⟨rfl, hb⟩; exact ⟨rfl, hT' _ ((hT _ hw).below hb)⟩))); simp only [Act.put, List.setIfInBounds_toArray, List.set_cons_zero, List.set_cons_succ])
    | (apply SeqD.pure; rfl; (intro w hw; obtain ⟨h1, h2, h3, h4⟩ := hT _ hw; simp only [cellsAre_cons, cellsAre_nil, and_true] at h4; go_simp; with_reducible rfl); simp only [Act.put, List.setIfInBounds_toArray, List.set_cons_zero, List.set_cons_succ])
    | (apply SeqD.split; rfl; rfl; all_goals (intro hc; simp only [hc]; try simp only [beq_iff_eq, decide_eq_true_eq, beq_eq_false_iff_ne, decide_eq_false_iff_not, bne_iff_ne, ne_eq, Bool.not_eq_true', Bool.not_eq_false', Int.not_le, Int.not_lt, bne_eq_false_iff_eq] at hc)))
  all_goals (apply SeqD.nil; refine hK _ ?_; intro w hw; obtain ⟨h1, h2, h3, h4⟩ := hw; simp only [cellsAre_cons, cellsAre_nil, and_true] at h4; clear hT hT' hK)
  all_goals (go_wp2; go_ret; refine ⟨ret_bool ?_, h1⟩; rw [mayS_some (by simp)]; clear h1 h2 h3 h4 hm)
  all_goals (rw [Bool.eq_iff_iff]; simp [leastS] at *; (try simp [*]); (try omega))
end Go.Proofs.Ytifeokabecgimaa
