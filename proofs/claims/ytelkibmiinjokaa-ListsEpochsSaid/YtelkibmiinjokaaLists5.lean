/-
  The walks over Best: of ranks, and the document's.
-/
import Derived.Test.YtelkibmiinjokaaLists4
set_option linter.unusedSimpArgs false
set_option linter.unusedVariables false
set_option maxRecDepth 100000
namespace Go.Proofs.Ytelkibmiinjokaa
open Go.RowKit Go.Sq Go.Wd

/-- The first number of two that is not 0. -/
def orL (x y : Int) : Int := if x ≠ 0 then x else y
theorem or_two (x y : Int) (b : Nat) (w : World) (h0 : w.cell? ⟨b, 0, none⟩ = some (.int .i64 x)) (h1 : w.cell? ⟨b, 1, none⟩ = some (.int .i64 y)) :
    Calls Try.prog 45 #[.slice (some ⟨b, 0, none⟩) 2 2] w fun e w' => e = .returned (.int .i64 (orL x y)) ∧ w' = w := by
  have HX : Hid (∃ z, z = x) := Lib.hid ⟨_, rfl⟩
  by_cases hx : x = 0
  · subst hx
    by_cases hy : y = 0
    · subst hy
      go_enter Try.func45, Try.ntmps45
      go_wp2_with fail
      refine wp_loop_rounds 3 ?_
      rw [rounds_succ]
      go_wp2_with fail
      rw [rounds_succ]
      go_wp2_with fail
      rw [rounds_succ]
      go_wp2_with fail
      go_ret
      exact ⟨ret_int (by simp [orL]), rfl⟩
    · have hy' : (y != 0) = true := by simpa using hy
      go_enter Try.func45, Try.ntmps45
      go_wp2_with fail
      refine wp_loop_rounds 3 ?_
      rw [rounds_succ]
      go_wp2_with fail
      rw [rounds_succ]
      go_wp2_with fail
      go_ret
      exact ⟨ret_int (by simp [orL]), rfl⟩
  · have hx' : (x != 0) = true := by simpa using hx
    go_enter Try.func45, Try.ntmps45
    go_wp2_with fail
    refine wp_loop_rounds 3 ?_
    rw [rounds_succ]
    go_wp2_with fail
    go_ret
    exact ⟨ret_int (by unfold orL; rw [if_pos hx]), rfl⟩

/-- Of two ranks. -/
def rankL (a b c d : Int) : Int := orL (cmpL a c) (cmpL b d)

theorem rank_any (a b c d : Int) (w : World) : Calls Try.prog 40 #[.agg #[.int .i64 a, .int .i64 b], .agg #[.int .i64 c, .int .i64 d]] w fun x w' => x = .returned (.int .i64 (rankL a b c d)) ∧ Below w.heap.size w w' := by
  go_enter Try.func40, Try.ntmps40
  go_wp2_with fail
  refine wp_region_p ([(0, true), (1, true), (2, true), (3, true), (4, true), (5, true), (6, true), (7, true), (8, true), (9, true), (10, false), (11, false), (12, true)]) (fun w' => Blk w' w.heap.size 74 [.int .i64 a, .int .i64 b] ∧ Blk w' (w.heap.size + 1) 74 [.int .i64 c, .int .i64 d]) (by kernel_rfl) rfl (by kernel_rfl) (by kernel_rfl) (⟨(Blk.new w 74 [.int .i64 a, .int .i64 b]).alloc (.cells #[.int .i64 c, .int .i64 d] 74), Blk.new1 w (.cells #[.int .i64 a, .int .i64 b] 74) 74 [.int .i64 c, .int .i64 d]⟩) rfl ?_
  intro KP RP TP hKP hTP hTP'
  simp only [pick, nth]
  go_wp2_with (first
    | (apply SeqP.skip; rfl; simp only [Act.put, List.setIfInBounds_toArray, List.set_cons_zero, List.set_cons_succ])
    | (apply SeqP.call; rfl; rfl; (intro w2 hw; have hw := hTP _ hw; ((have q0 := hw.1.cell 0; have q1 := hw.1.cell 1; have q2 := hw.2.cell 0; have q3 := hw.2.cell 1; simp at q0 q1 q2 q3)); go_simp; exact ⟨rfl, rfl⟩); (intro w2 hw; have hw := hTP _ hw; ((have q0 := hw.1.cell 0; have q1 := hw.1.cell 1; have q2 := hw.2.cell 0; have q3 := hw.2.cell 1; simp at q0 q1 q2 q3)); (first | (go_at_call 46; refine (compare_any _ _ _).mono ?_; rintro e w' ⟨rfl, rfl⟩; exact ⟨rfl, rfl⟩))); simp only [Act.put, List.setIfInBounds_toArray, List.set_cons_zero, List.set_cons_succ])
    | (apply SeqP.pure; rfl; (intro w2 hw; have hw := hTP _ hw; ((have q0 := hw.1.cell 0; have q1 := hw.1.cell 1; have q2 := hw.2.cell 0; have q3 := hw.2.cell 1; simp at q0 q1 q2 q3)); go_simp; with_reducible rfl); simp only [Act.put, List.setIfInBounds_toArray, List.set_cons_zero, List.set_cons_succ])
    | (apply SeqP.split; rfl; rfl; all_goals (intro hc; simp only [hc]; try simp only [beq_iff_eq, decide_eq_true_eq, beq_eq_false_iff_ne, decide_eq_false_iff_not, bne_iff_ne, ne_eq, Bool.not_eq_true', Bool.not_eq_false', Int.not_le, Int.not_lt, bne_eq_false_iff_eq, Bool.or_eq_true, Bool.and_eq_true, Bool.or_eq_false_iff] at hc)))
  apply SeqP.eff
  · rfl
  intro KE hKE
  go_wp2_with fail
  have hA : Blk (((w.alloc (.cells #[.int .i64 a, .int .i64 b] 74)).alloc (.cells #[.int .i64 c, .int .i64 d] 74)).alloc (.cells #[.int .i64 (cmpL a c), .int .i64 (cmpL b d)] 3)) w.heap.size 74 [.int .i64 a, .int .i64 b] :=
    ((Blk.new w 74 [.int .i64 a, .int .i64 b]).alloc _).alloc _
  have hB : Blk (((w.alloc (.cells #[.int .i64 a, .int .i64 b] 74)).alloc (.cells #[.int .i64 c, .int .i64 d] 74)).alloc (.cells #[.int .i64 (cmpL a c), .int .i64 (cmpL b d)] 3)) (w.heap.size + 1) 74 [.int .i64 c, .int .i64 d] :=
    (Blk.new1 w (.cells #[.int .i64 a, .int .i64 b] 74) 74 [.int .i64 c, .int .i64 d]).alloc _
  refine hKE _ _ (hTP' _ ⟨hA, hB⟩) ?_
  clear hKE
  apply SeqP.eff
  · rfl
  intro KE hKE
  go_wp2_with fail
  refine (or_two (cmpL a c) (cmpL b d) _ _ (by simp [go_sem]) (by simp [go_sem])).mono ?_
  rintro e w1 ⟨rfl, rfl⟩
  refine hKE _ _ (hTP' _ ⟨hA, hB⟩) ?_
  go_wp2_with (first
    | (apply SeqP.skip; rfl; simp only [Act.put, List.setIfInBounds_toArray, List.set_cons_zero, List.set_cons_succ])
    | (apply SeqP.call; rfl; rfl; (intro w2 hw; have hw := hTP _ hw; (skip); go_simp; exact ⟨rfl, rfl⟩); (intro w2 hw; have hw := hTP _ hw; (skip); (first | fail)); simp only [Act.put, List.setIfInBounds_toArray, List.set_cons_zero, List.set_cons_succ])
    | (apply SeqP.pure; rfl; (intro w2 hw; have hw := hTP _ hw; (skip); go_simp; with_reducible rfl); simp only [Act.put, List.setIfInBounds_toArray, List.set_cons_zero, List.set_cons_succ])
    | (apply SeqP.split; rfl; rfl; all_goals (intro hc; simp only [hc]; try simp only [beq_iff_eq, decide_eq_true_eq, beq_eq_false_iff_ne, decide_eq_false_iff_not, bne_iff_ne, ne_eq, Bool.not_eq_true', Bool.not_eq_false', Int.not_le, Int.not_lt, bne_eq_false_iff_eq, Bool.or_eq_true, Bool.and_eq_true, Bool.or_eq_false_iff] at hc)))
  apply SeqP.nil
  refine hKP _ _ (hTP' _ (⟨hA, hB⟩)) ?_
  clear hKP hTP hTP'
  go_wp2_with fail
  go_ret
  exact ⟨rfl, by (repeat (first | with_reducible apply Below.drew | with_reducible refine Below.setCell ?_ (by first | exact Nat.le_refl _ | (simp; done) | (simp; omega) | omega) _ | with_reducible refine Below.alloc ?_ (by first | exact Nat.le_refl _ | (simp; done) | (simp; omega) | omega) _ | with_reducible exact Below.refl _ _ | with_reducible assumption))⟩
end Go.Proofs.Ytelkibmiinjokaa
