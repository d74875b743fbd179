/-
  The walk over the statement 'LeasesNone'.
-/
import Derived.Test.YtigkfekidmjpbaaLeasesLives
set_option linter.unusedSimpArgs false
set_option linter.unusedVariables false
namespace Go.Proofs.Ytigkfekidmjpbaa
open Go.RowKit Go.Sq Go.Im

theorem no_below {w w' : World} {v : Value} (h : NoBook w v) (hb : Below w.heap.size w w') : NoBook w' v := by
  rcases h with rfl | ⟨b, rfl, h⟩
  · exact .inl rfl
  · exact .inr ⟨b, rfl, (World.grownBy.cell (row := none) ⟨hb.os, hb.tape, hb.output, hb.size, fun i hi _ => hb.block i hi⟩ h (by simp))⟩

set_option maxHeartbeats 2000000 in
theorem leasesNone_walk (s ep now : Int) (w : World) : Calls Try.prog 5 #[.int .i64 s, .int .i64 ep, .int .i64 now] w fun e w' => e = .returned (.bool true) ∧ Below w.heap.size w w' := by
  have hw0 : Below w.heap.size w w := Below.refl _ _
  go_enter Try.func5, Try.ntmps5
  go_wp2_with fail
  refine wp_loop_rounds 3 ?_
  rw [rounds_succ]
  go_wp2_with fail
  refine (lholder_no _ _ (.inl rfl)).mono ?_
  rintro e w1 ⟨rfl, hb1⟩
  have hw1 := below_below hw0 hb1 hw0.size
  clear hb1
  go_wp2_with fail
  refine (lmay_no _ _ _ (.inl rfl)).mono ?_
  rintro e w2 ⟨rfl, hb2⟩
  have hw2 := below_below hw1 hb2 hw1.size
  clear hb2
  go_wp2_with fail
  refine (lgrant_no _ _ _ (.inl rfl)).mono ?_
  rintro e w3 ⟨rfl, hb3⟩
  have hw3 := below_below hw2 hb3 hw2.size
  clear hb3
  go_wp2_with fail
  refine (lrelease_no _ _ (.inl rfl)).mono ?_
  rintro e w4 ⟨rfl, hb4⟩
  have hw4 := below_below hw3 hb4 hw3.size
  clear hb4
  go_wp2_with fail
  have hn5 : NoBook (w4.alloc (.cells #[.bool false, .int .i64 0, .map none] 47)) (.pointer (some ⟨w4.heap.size, 0, none⟩)) := .inr ⟨_, rfl, by simp [go_sem]⟩
  have hw5 : Below w.heap.size w (w4.alloc (.cells #[.bool false, .int .i64 0, .map none] 47)) := hw4.alloc hw4.size _
  generalize w4.alloc (.cells #[.bool false, .int .i64 0, .map none] 47) = w5 at hn5 hw5 ⊢
  rw [rounds_succ]
  go_wp2_with fail
  refine (lholder_no _ _ hn5).mono ?_
  rintro e w6 ⟨rfl, hb6⟩
  have hw6 := below_below hw5 hb6 hw5.size
  have hn6 := no_below hn5 hb6
  clear hb6
  go_wp2_with fail
  refine (lmay_no _ _ _ hn6).mono ?_
  rintro e w7 ⟨rfl, hb7⟩
  have hw7 := below_below hw6 hb7 hw6.size
  have hn7 := no_below hn6 hb7
  clear hb7
  go_wp2_with fail
  refine (lgrant_no _ _ _ hn7).mono ?_
  rintro e w8 ⟨rfl, hb8⟩
  have hw8 := below_below hw7 hb8 hw7.size
  have hn8 := no_below hn7 hb8
  clear hb8
  go_wp2_with fail
  refine (lrelease_no _ _ hn8).mono ?_
  rintro e w9 ⟨rfl, hb9⟩
  have hw9 := below_below hw8 hb9 hw8.size
  have hn9 := no_below hn8 hb9
  clear hb9
  go_wp2_with fail
  rw [rounds_succ]
  go_wp2_with fail
  refine (lives_walk _).mono ?_
  rintro e wz ⟨rfl, hbz⟩
  go_wp2_with fail
  go_ret
  refine ⟨rfl, below_below ?_ hbz (by simp; exact Nat.le_of_lt (Nat.lt_succ_of_le hw9.size))⟩
  exact hw9.alloc hw9.size _
end Go.Proofs.Ytigkfekidmjpbaa
