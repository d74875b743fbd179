/-
  The walks over a model that is none.
-/
import Derived.Test.YtlineikeafepcaaMdlAllows
set_option linter.unusedSimpArgs false
set_option linter.unusedVariables false
set_option maxRecDepth 100000
namespace Go.Proofs.Ytlineikeafepcaa
open Go Go.RowKit Go.Sq Go.Wd Go.Arch

/-- A model that is none: nil, or not made. -/
def NoneAt (w : World) (p : Option Addr) : Prop := p = none ∨ ∃ g, p = some ⟨g, 0, none⟩ ∧ w.cell? ⟨g, 0, none⟩ = some (.bool false) ∧ g < w.heap.size
theorem NoneAt.keep {w w' : World} {p : Option Addr} (h : NoneAt w p) (hb : Below w.heap.size w w') : NoneAt w' p := by
  rcases h with h | ⟨g, h1, h2, h3⟩
  · exact .inl h
  · exact .inr ⟨g, h1, (hb.cell (p := ⟨g, 0, none⟩) h3).trans h2, Nat.lt_of_lt_of_le h3 hb.size⟩

set_option maxHeartbeats 2000000 in
theorem do_no (o : Ord) (p : Option Addr) (w : World) (H : NoneAt w p) :
    Calls Try.prog 16 #[.pointer p, .agg (ordv o).toArray] w fun e w' => e = .returned (.tuple #[.agg (outv noOut (none, 0, 0)).toArray, .int .i64 1]) ∧ Below w.heap.size w w' := by
  have hz : Below w.heap.size w ((w.alloc (.cells (ordv o).toArray 37)).alloc (.cells #[.int .i64 0, .int .i64 0, .slice none 0 0] 32)) := ((Below.refl _ _).alloc (Nat.le_refl _) _).alloc (by simp) _
  have BR := Blk.new1 w (.cells (ordv o).toArray 37) 32 [.int .i64 0, .int .i64 0, .slice none 0 0]
  have hN := H.keep hz
  have HH := Lib.hid hz
  clear hz H
  rcases hN with rfl | ⟨g, rfl, c0, hg⟩
  all_goals
    go_enter Try.func16, Try.ntmps16
    go_wp2_with ((with_reducible refine at_list ?_); first | (refine wpList_store_own rfl 32 _ _ rfl _ (outv noOut (none, 0, 0)) rfl rfl _ _ (BR) outcome_info rfl (outv_one _ _) ?_; intro w2 R2 g2))
    apply ret_of
    · exact results_blk_tmp rfl _ _ _ _ _ _ rfl (R2) Try.underlying32 rfl outcome_info _ rfl
    exact ⟨rfl, rfl, HH.out.trans (below_grown g2 (Nat.le_succ _) HH.out.size)⟩

set_option maxHeartbeats 2000000 in
theorem state_no (s : Int) (p : Option Addr) (w : World) (H : NoneAt w p) :
    Calls Try.prog 19 #[.pointer p, .int .i64 s] w fun e w' => e = .returned (.tuple #[.agg (stv ⟨0, false, 0, 0⟩).toArray, .int .i64 1]) ∧ Below w.heap.size w w' := by
  have hz : Below w.heap.size w (w.alloc (.cells #[.int .i64 0, .bool false, .int .i64 0, .int .i64 0] 40)) := (Below.refl _ _).alloc (Nat.le_refl _) _
  have BR := Blk.new w 40 [.int .i64 0, .bool false, .int .i64 0, .int .i64 0]
  have hN := H.keep hz
  have HH := Lib.hid hz
  clear hz H
  rcases hN with rfl | ⟨g, rfl, c0, hg⟩
  all_goals
    go_enter Try.func19, Try.ntmps19
    go_wp2_with ((with_reducible refine at_list ?_); first | (refine wpList_store_own rfl 40 _ _ rfl _ (stv ⟨0, false, 0, 0⟩) rfl rfl _ _ (BR) state_info rfl (stv_one _) ?_; intro w2 R2 g2))
    apply ret_of
    · exact results_blk_tmp rfl _ _ _ _ _ _ rfl (R2) Try.underlying40 rfl state_info _ rfl
    exact ⟨rfl, rfl, HH.out.trans (below_grown g2 (Nat.le_refl _) HH.out.size)⟩

theorem none_no (s : Int) (p : Option Addr) (w : World) (H : NoneAt w p) :
    Calls Try.prog 45 #[.pointer p, .int .i64 s] w fun e w' => e = .returned (.bool true) ∧ w' = w := by
  rcases H with rfl | ⟨g, rfl, c0, hg⟩
  all_goals
    go_enter Try.func45, Try.ntmps45
    go_wp2_with fail
    go_ret
    exact ⟨rfl, rfl⟩

theorem orders_no (s : Int) (p : Option Addr) (w : World) (H : NoneAt w p) :
    Calls Try.prog 22 #[.pointer p, .int .i64 s] w fun e w' => e = .returned (.slice none 0 0) ∧ w' = w := by
  go_enter Try.func22, Try.ntmps22
  go_wp2_with fail
  refine (none_no s p w H).mono ?_
  rintro e w1 ⟨rfl, rfl⟩
  go_wp2_with fail
  go_ret
  exact ⟨rfl, rfl⟩

set_option maxHeartbeats 2000000 in
theorem allows_no (s : Int) (a : Ans) (p : Option Addr) (w : World) (H : NoneAt w p) :
    Calls Try.prog 24 #[.pointer p, .int .i64 s, .agg (ansv a).toArray] w fun e w' => e = .returned (.bool false) ∧ Below w.heap.size w w' := by
  obtain ⟨id, cd, vr⟩ := a
  unfold ansv
  dsimp only
  have hz : Below w.heap.size w (w.alloc (.cells #[.int .i64 id, .int .i64 cd, .int .i64 vr] 47)) := (Below.refl _ _).alloc (Nat.le_refl _) _
  have hN := H.keep hz
  have HH := Lib.hid hz
  have HN := Lib.hid hN
  clear hz H
  by_cases hc : cd = 4 ∨ cd = 5 ∨ cd = 6 ∨ cd = 7
  case pos =>
    rcases hN with rfl | ⟨g, rfl, c0, hg⟩
    all_goals
      rcases hc with rfl | rfl | rfl | rfl
      all_goals
        go_enter Try.func24, Try.ntmps24
        go_wp2_with fail
        go_ret
        exact ⟨rfl, HH.out⟩
  case neg =>
    have q4 : (cd == 4) = false := by rw [beq_eq_false_iff_ne]; omega
    have q5 : (cd == 5) = false := by rw [beq_eq_false_iff_ne]; omega
    have q6 : (cd == 6) = false := by rw [beq_eq_false_iff_ne]; omega
    have q7 : (cd == 7) = false := by rw [beq_eq_false_iff_ne]; omega
    clear hc hN
    go_enter Try.func24, Try.ntmps24
    go_wp2_with fail
    refine (none_no s p _ HN.out).mono ?_
    rintro e w1 ⟨rfl, rfl⟩
    go_wp2_with fail
    go_ret
    exact ⟨rfl, HH.out⟩
end Go.Proofs.Ytlineikeafepcaa
