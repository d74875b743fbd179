/-
  The walks over the document's answer for aggregates.
-/
import Derived.Test.YtifeokabecgimaaProg
import Derived.Test.YtifeokabecgimaaSeq
import Derived.WalkKit
import Derived.WalkSpells
import Derived.WalkLawsBesides
import Derived.RowKit3
import Derived.Lib.Hide
import Derived.Test.YtifeokabecgimaaDecideAny
set_option linter.unusedSimpArgs false
set_option linter.unusedVariables false
set_option maxRecDepth 100000
namespace Go.Proofs.Ytifeokabecgimaa
open Go.RowKit Go.Sq Go.Arch

set_option maxHeartbeats 2000000 in
theorem ref_may (t s v : Int) (c : Bool) (w : World) :
    Calls Try.prog 46 #[.agg #[.int .i64 t, .bool c, .int .i64 s, .int .i64 v]] w fun e w' => e = .returned (.bool (mayS ⟨t, c, s, v⟩)) ∧ Below w.heap.size w w' := by
  cases c
  all_goals go_enter Try.func46, Try.ntmps46
  go_wp2
  all_goals (go_ret; refine ⟨ret_bool ?_, by (repeat (first | with_reducible apply Below.drew | with_reducible refine Below.setCell ?_ (by first | exact Nat.le_refl _ | (simp; done) | (simp; omega) | omega) _ | with_reducible refine Below.alloc ?_ (by first | exact Nat.le_refl _ | (simp; done) | (simp; omega) | omega) _ | with_reducible exact Below.refl _ _ | with_reducible assumption))⟩)
  all_goals (try simp only [beq_iff_eq, decide_eq_true_eq, beq_eq_false_iff_ne, decide_eq_false_iff_not, bne_iff_ne, ne_eq, Bool.not_eq_true', Bool.not_eq_false', Int.not_le, Int.not_lt, not_false_eq_true, bne_eq_false_iff_eq] at *)
  all_goals (rw [Bool.eq_iff_iff]; simp [mayS, leastS] at *; (try simp [*]); (first | done | omega | (split <;> omega)))

set_option maxHeartbeats 2000000 in
theorem ref_may09 (x0 x1 x2 x3 x4 : Int) (w : World) :
    Calls Try.prog 47 #[.agg #[.int .i64 x0, .int .i64 x1, .int .i64 x2, .int .i64 x3, .int .i64 x4]] w fun e w' => e = .returned (.bool (ordOk ⟨x0, x1, x2, x3, x4⟩)) ∧ Below w.heap.size w w' := by
  go_enter Try.func47, Try.ntmps47
  go_wp2
  all_goals (go_ret; refine ⟨ret_bool ?_, by (repeat (first | with_reducible apply Below.drew | with_reducible refine Below.setCell ?_ (by first | exact Nat.le_refl _ | (simp; done) | (simp; omega) | omega) _ | with_reducible refine Below.alloc ?_ (by first | exact Nat.le_refl _ | (simp; done) | (simp; omega) | omega) _ | with_reducible exact Below.refl _ _ | with_reducible assumption))⟩)
  all_goals (try simp only [beq_iff_eq, decide_eq_true_eq, beq_eq_false_iff_ne, decide_eq_false_iff_not, bne_iff_ne, ne_eq, Bool.not_eq_true', Bool.not_eq_false', Int.not_le, Int.not_lt, not_false_eq_true, bne_eq_false_iff_eq] at *)
  all_goals (rw [Bool.eq_iff_iff]; simp [ordOk] at *; (try simp [*]); (first | done | omega))

set_option maxHeartbeats 2000000 in
theorem ref_comes (t s v k a : Int) (c : Bool) (w : World) (hs : -1099511627776 ≤ s) (hs' : s ≤ 1099511627776) :
    Calls Try.prog 48 #[.agg #[.int .i64 t, .bool c, .int .i64 s, .int .i64 v], .agg #[.int .i64 k, .int .i64 a]] w fun e w' => e = .returned (.bool (comesS ⟨t, c, s, v⟩ ⟨k, a⟩)) ∧ Below w.heap.size w w' := by
  cases c
  all_goals go_enter Try.func48, Try.ntmps48
  go_wp2
  all_goals (go_ret; refine ⟨ret_bool ?_, by (repeat (first | with_reducible apply Below.drew | with_reducible refine Below.setCell ?_ (by first | exact Nat.le_refl _ | (simp; done) | (simp; omega) | omega) _ | with_reducible refine Below.alloc ?_ (by first | exact Nat.le_refl _ | (simp; done) | (simp; omega) | omega) _ | with_reducible exact Below.refl _ _ | with_reducible assumption))⟩)
  all_goals (try simp only [beq_iff_eq, decide_eq_true_eq, beq_eq_false_iff_ne, decide_eq_false_iff_not, bne_iff_ne, ne_eq, Bool.not_eq_true', Bool.not_eq_false', Int.not_le, Int.not_lt, not_false_eq_true, bne_eq_false_iff_eq] at *)
  all_goals (rw [Bool.eq_iff_iff]; simp [comesS, leastS] at *; (try simp [*]); (first | done | omega | (split <;> omega)))
end Go.Proofs.Ytifeokabecgimaa
