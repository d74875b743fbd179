/-
  Epochs in plain Lean, and the walks over epochs' short functions, the document's too.
-/
import Derived.Test.YtlineikeafepcaaOpen
import Derived.Test.YtlineikeafepcaaSeq
import Derived.Test.YtlineikeafepcaaWords
import Derived.WalkKit
import Derived.WalkSpells
import Derived.WalkLawsBesides
import Derived.RowKit3
import Derived.Lib.Hide
set_option linter.unusedSimpArgs false
set_option linter.unusedVariables false
set_option maxRecDepth 100000
namespace Go.Proofs.Ytlineikeafepcaa
open Go Go.RowKit Go.Sq

def sitesE (n : Int) : Bool := decide (2 ≤ n ∧ n ≤ 7)
def ofE (e n : Int) : Int := if 1 ≤ e ∧ e ≤ 1048576 ∧ sitesE n = true then (e - 1) % n else -1
def majE (n : Int) : Int := if sitesE n = true then n / 2 + 1 else 0
def stepE (e s n : Int) : Int := e + 1 + (s - e % n + n) % n
def nextOk (e s n : Int) : Prop := sitesE n = true ∧ 0 ≤ s ∧ s < n ∧ 0 ≤ e ∧ e ≤ 1048576
instance (e s n : Int) : Decidable (nextOk e s n) := by unfold nextOk; infer_instance
def nextE (e s n : Int) : Int × Int := if nextOk e s n then (if stepE e s n ≤ 1048576 then (stepE e s n, 0) else (0, 3)) else (0, 2)
theorem sites_cases {n : Int} (h : sitesE n = true) : n = 2 ∨ n = 3 ∨ n = 4 ∨ n = 5 ∨ n = 6 ∨ n = 7 := by
  unfold sitesE at h
  simp only [decide_eq_true_eq] at h
  omega

theorem sites_any (n : Int) (w : World) : Calls Try.prog 48 #[.int .i64 n] w fun e w' => e = .returned (.bool (sitesE n)) ∧ w' = w := by
  go_enter Try.func48, Try.ntmps48
  go_wp2
  all_goals (go_ret; refine ⟨ret_bool ?_, rfl⟩; rw [Bool.eq_iff_iff]; simp [sitesE] at *; first | done | omega)
theorem rsites_any (n : Int) (w : World) : Calls Try.prog 49 #[.int .i64 n] w fun e w' => e = .returned (.bool (sitesE n)) ∧ w' = w := by
  go_enter Try.func49, Try.ntmps49
  go_wp2
  all_goals (go_ret; refine ⟨ret_bool ?_, rfl⟩; rw [Bool.eq_iff_iff]; simp [sitesE] at *; first | done | omega)
theorem of_any (x n : Int) (w : World) : Calls Try.prog 30 #[.int .i64 x, .int .i64 n] w fun e w' => e = .returned (.int .i64 (ofE x n)) ∧ w' = w := by
  by_cases h1 : x < 1
  · have hN := Lib.hid (show ofE x n = -1 from if_neg (by omega))
    go_enter Try.func30, Try.ntmps30
    go_wp2_with fail
    go_ret
    rw [hN.out]
    exact ⟨rfl, rfl⟩
  by_cases h2 : 1048576 < x
  · have hN := Lib.hid (show ofE x n = -1 from if_neg (by omega))
    go_enter Try.func30, Try.ntmps30
    go_wp2_with fail
    go_ret
    rw [hN.out]
    exact ⟨rfl, rfl⟩
  cases hs : sitesE n with
  | false =>
    have hN := Lib.hid (show ofE x n = -1 from if_neg (by rw [hs]; simp))
    have hc := sites_any n w
    rw [hs] at hc
    have HC := Lib.hid hc
    clear hc hs
    go_enter Try.func30, Try.ntmps30
    go_wp2_with fail
    refine HC.out.mono ?_
    rintro e w1 ⟨rfl, rfl⟩
    go_wp2_with fail
    go_ret
    rw [hN.out]
    exact ⟨rfl, rfl⟩
  | true =>
    have hN := Lib.hid (show ofE x n = (x - 1) % n from if_pos ⟨by omega, by omega, hs⟩)
    have hc := sites_any n w
    rw [hs] at hc
    have HC := Lib.hid hc
    clear hc
    rcases sites_cases hs with rfl | rfl | rfl | rfl | rfl | rfl
    all_goals
      clear hs
      go_enter Try.func30, Try.ntmps30
      go_wp2_with fail
      refine HC.out.mono ?_
      rintro e w1 ⟨rfl, rfl⟩
      go_wp2_with fail
      go_ret
      rw [hN.out]
      exact ⟨rfl, rfl⟩
theorem rof_any (x n : Int) (w : World) : Calls Try.prog 31 #[.int .i64 x, .int .i64 n] w fun e w' => e = .returned (.int .i64 (ofE x n)) ∧ w' = w := by
  by_cases h1 : x < 1
  · have hN := Lib.hid (show ofE x n = -1 from if_neg (by omega))
    go_enter Try.func31, Try.ntmps31
    go_wp2_with fail
    go_ret
    rw [hN.out]
    exact ⟨rfl, rfl⟩
  by_cases h2 : 1048576 < x
  · have hN := Lib.hid (show ofE x n = -1 from if_neg (by omega))
    go_enter Try.func31, Try.ntmps31
    go_wp2_with fail
    go_ret
    rw [hN.out]
    exact ⟨rfl, rfl⟩
  cases hs : sitesE n with
  | false =>
    have hN := Lib.hid (show ofE x n = -1 from if_neg (by rw [hs]; simp))
    have hc := rsites_any n w
    rw [hs] at hc
    have HC := Lib.hid hc
    clear hc hs
    go_enter Try.func31, Try.ntmps31
    go_wp2_with fail
    refine HC.out.mono ?_
    rintro e w1 ⟨rfl, rfl⟩
    go_wp2_with fail
    go_ret
    rw [hN.out]
    exact ⟨rfl, rfl⟩
  | true =>
    have hN := Lib.hid (show ofE x n = (x - 1) % n from if_pos ⟨by omega, by omega, hs⟩)
    have hc := rsites_any n w
    rw [hs] at hc
    have HC := Lib.hid hc
    clear hc
    rcases sites_cases hs with rfl | rfl | rfl | rfl | rfl | rfl
    all_goals
      clear hs
      go_enter Try.func31, Try.ntmps31
      go_wp2_with fail
      refine HC.out.mono ?_
      rintro e w1 ⟨rfl, rfl⟩
      go_wp2_with fail
      go_ret
      rw [hN.out]
      exact ⟨rfl, rfl⟩
theorem maj_any (n : Int) (w : World) : Calls Try.prog 32 #[.int .i64 n] w fun e w' => e = .returned (.int .i64 (majE n)) ∧ w' = w := by
  cases hs : sitesE n with
  | false =>
    have hN := Lib.hid (show majE n = 0 from if_neg (by rw [hs]; simp))
    have hc := sites_any n w
    rw [hs] at hc
    have HC := Lib.hid hc
    clear hc hs
    go_enter Try.func32, Try.ntmps32
    go_wp2_with fail
    refine HC.out.mono ?_
    rintro e w1 ⟨rfl, rfl⟩
    go_wp2_with fail
    go_ret
    rw [hN.out]
    exact ⟨rfl, rfl⟩
  | true =>
    have hN := Lib.hid (show majE n = n / 2 + 1 from if_pos hs)
    have hc := sites_any n w
    rw [hs] at hc
    have HC := Lib.hid hc
    clear hc
    rcases sites_cases hs with rfl | rfl | rfl | rfl | rfl | rfl
    all_goals
      clear hs
      go_enter Try.func32, Try.ntmps32
      go_wp2_with fail
      refine HC.out.mono ?_
      rintro e w1 ⟨rfl, rfl⟩
      go_wp2_with fail
      go_ret
      rw [hN.out]
      exact ⟨rfl, rfl⟩
theorem rmaj_any (n : Int) (w : World) : Calls Try.prog 33 #[.int .i64 n] w fun e w' => e = .returned (.int .i64 (majE n)) ∧ w' = w := by
  cases hs : sitesE n with
  | false =>
    have hN := Lib.hid (show majE n = 0 from if_neg (by rw [hs]; simp))
    have hc := rsites_any n w
    rw [hs] at hc
    have HC := Lib.hid hc
    clear hc hs
    go_enter Try.func33, Try.ntmps33
    go_wp2_with fail
    refine HC.out.mono ?_
    rintro e w1 ⟨rfl, rfl⟩
    go_wp2_with fail
    go_ret
    rw [hN.out]
    exact ⟨rfl, rfl⟩
  | true =>
    have hN := Lib.hid (show majE n = n / 2 + 1 from if_pos hs)
    have hc := rsites_any n w
    rw [hs] at hc
    have HC := Lib.hid hc
    clear hc
    rcases sites_cases hs with rfl | rfl | rfl | rfl | rfl | rfl
    all_goals
      clear hs
      go_enter Try.func33, Try.ntmps33
      go_wp2_with fail
      refine HC.out.mono ?_
      rintro e w1 ⟨rfl, rfl⟩
      go_wp2_with fail
      go_ret
      rw [hN.out]
      exact ⟨rfl, rfl⟩
end Go.Proofs.Ytlineikeafepcaa
