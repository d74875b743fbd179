/-
  The walk over the statement EpochsMeet.
-/
import Derived.Test.YtlineikeafepcaaEpoWorks
import Derived.Deep.LoopGhost
set_option linter.unusedSimpArgs false
set_option linter.unusedVariables false
set_option maxRecDepth 100000
namespace Go.Proofs.Ytlineikeafepcaa
open Go Go.RowKit Go.Sq Go.Wd

set_option maxHeartbeats 2000000 in
theorem epochsMeet_walk (a b : Nat) (ha : a ≤ 255) (hb : b ≤ 255) (n : Int) (w : World) : Calls Try.prog 11 #[.int .u8 (a : Int), .int .u8 (b : Int), .int .i64 n] w fun r w' => r = .returned (.bool true) ∧ Below w.heap.size w w' := by
  cases hs : sitesE n with
  | false =>
    have hc := maj_any n w
    rw [maj_zero.2 hs] at hc
    have HC := Lib.hid hc
    have hn : n < 2 ∨ (¬ n < 2 ∧ 7 < n) := by unfold sitesE at hs; simp only [decide_eq_false_iff_not] at hs; omega
    clear hc hs
    rcases hn with h1 | ⟨h1, h2⟩
    all_goals
      go_enter Try.func11, Try.ntmps11
      go_wp2_with fail
      refine HC.out.mono ?_
      rintro r w1 ⟨rfl, rfl⟩
      go_wp2_with fail
      refine (works_any _).mono ?_
      rintro r w7 ⟨rfl, hb⟩
      go_wp2_with fail
      go_ret
      exact ⟨rfl, hb⟩
  | true =>
    have hr := maj_range hs
    have hc := maj_any n w
    obtain ⟨k, hk⟩ : ∃ k, majE n = k := ⟨_, rfl⟩
    rw [hk] at hc hr
    have HC := Lib.hid hc
    have hk0 : (k == 0) = false := by rw [beq_eq_false_iff_ne]; omega
    clear hc hk
    have hn7 : 2 ≤ n ∧ n ≤ 7 := by rcases sites_cases hs with rfl | rfl | rfl | rfl | rfl | rfl <;> omega
    obtain ⟨N, rfl⟩ := Int.eq_ofNat_of_zero_le (show 0 ≤ n by omega)
    clear hs
    go_enter Try.func11, Try.ntmps11
    go_wp2_with fail
    refine HC.out.mono ?_
    rintro r w1 ⟨rfl, rfl⟩
    go_wp2_with fail
    go_loopg [8, 9, 10, 11] N (fun q x y z i wr => ∃ (j : Nat) (X Y Z : Nat), q = N - j ∧ j ≤ N ∧ x = .int .i64 X ∧ y = .int .i64 Y ∧ z = .int .i64 Z ∧ i = .int .i64 j ∧ (X ≤ j ∧ Y ≤ j ∧ Z ≤ j ∧ X + Y ≤ j + Z) ∧ wr = w1)
    case atStart => exact ⟨0, 0, 0, 0, rfl, by omega, rfl, rfl, rfl, rfl, by omega, rfl⟩
    case round =>
      obtain ⟨j, X, Y, Z, hq, hj, rfl, rfl, rfl, rfl, ht, rfl⟩ := hrel
      have AA : Aside (gk = N - j ∧ (X ≤ j ∧ Y ≤ j ∧ Z ≤ j ∧ X + Y ≤ j + Z)) := ⟨hq, ht⟩
      clear hq
      by_cases hlt : j < N
      · have hj8 : j < 8 := by omega
        go_wp2_with fail
        · go_roundg (N - (j + 1))
          case measure => have hkk := AA.out.1; omega
          case rel => exact ⟨j + 1, X + 1, Y + 1, Z + 1, rfl, by omega, by go_num, by go_num, by go_num, by go_num, by omega, rfl⟩
        · go_roundg (N - (j + 1))
          case measure => have hkk := AA.out.1; omega
          case rel => exact ⟨j + 1, X + 1, Y, Z, rfl, by omega, by go_num, by go_num, by go_num, by go_num, by omega, rfl⟩
        · go_roundg (N - (j + 1))
          case measure => have hkk := AA.out.1; omega
          case rel => exact ⟨j + 1, X, Y + 1, Z, rfl, by omega, by go_num, by go_num, by go_num, by go_num, by omega, rfl⟩
        · go_roundg (N - (j + 1))
          case measure => have hkk := AA.out.1; omega
          case rel => exact ⟨j + 1, X, Y, Z, rfl, by omega, by go_num, by go_num, by go_num, by go_num, by omega, rfl⟩
      · obtain rfl : j = N := by omega
        have b1 : 2 * k > (j : Int) := by omega
        have b2 : 2 * (k - 1) ≤ (j : Int) := by omega
        have w1 : wrap64 (2 * k) = 2 * k := by unfold wrap64; omega
        have w2 : wrap64 (k - 1) = k - 1 := by unfold wrap64; omega
        have w3 : wrap64 (2 * (k - 1)) = 2 * (k - 1) := by unfold wrap64; omega
        have hcc : ((X : Int) < k) ∨ (¬ (X : Int) < k ∧ (Y : Int) < k) ∨ (¬ (X : Int) < k ∧ ¬ (Y : Int) < k ∧ (0 : Int) < Z) := by omega
        rcases hcc with c1 | ⟨c1, c2⟩ | ⟨c1, c2, c3⟩
        all_goals
          go_wp2_with fail
          refine (works_any _).mono ?_
          rintro r w7 ⟨rfl, hb⟩
          go_wp2_with fail
          go_ret
          exact ⟨rfl, hb⟩
end Go.Proofs.Ytlineikeafepcaa
