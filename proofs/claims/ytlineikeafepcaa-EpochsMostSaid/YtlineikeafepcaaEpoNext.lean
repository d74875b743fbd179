/-
  The walks over epochs.Next and the document's.
-/
import Derived.Test.YtlineikeafepcaaEpo
import Derived.Deep.LoopGhost
set_option linter.unusedSimpArgs false
set_option linter.unusedVariables false
set_option maxRecDepth 100000
namespace Go.Proofs.Ytlineikeafepcaa
open Go Go.RowKit Go.Sq Go.Wd

theorem step_eq {e s n j : Int} (h : nextOk e s n) (h0 : 0 ≤ j) (hj : j < n) (he : (e + j) % n = s) : stepE e s n = e + 1 + j := by
  obtain ⟨hs, h1, h2, h3, h4⟩ := h
  unfold stepE
  rcases sites_cases hs with rfl | rfl | rfl | rfl | rfl | rfl <;> omega
theorem step_hit {e s n j : Int} (h : nextOk e s n) (h0 : 0 ≤ j) (hj : j < n) (he : ofE (e + 1 + j) n = s) : nextE e s n = (e + 1 + j, 0) := by
  have h' := h
  obtain ⟨hs, h1, h2, h3, h4⟩ := h'
  unfold ofE at he
  split at he
  · rename_i hc
    have e1 : e + 1 + j - 1 = e + j := by omega
    rw [e1] at he
    have := step_eq h h0 hj he
    unfold nextE
    rw [if_pos h, this, if_pos hc.2.1]
  · omega
theorem step_in {e s n : Int} (h : nextOk e s n) : ∃ j, 0 ≤ j ∧ j < n ∧ (e + j) % n = s ∧ stepE e s n = e + 1 + j := by
  have h' := h
  obtain ⟨hs, h1, h2, h3, h4⟩ := h'
  refine ⟨(s - e % n + n) % n, ?_, ?_, ?_, rfl⟩ <;> (rcases sites_cases hs with rfl | rfl | rfl | rfl | rfl | rfl <;> omega)
theorem step_none {e s n : Int} (h : nextOk e s n) (hn : ∀ j : Int, 0 ≤ j → j < n → ofE (e + 1 + j) n ≠ s) : nextE e s n = (0, 3) := by
  unfold nextE
  rw [if_pos h]
  by_cases hm : stepE e s n ≤ 1048576
  · obtain ⟨j, h0, hj, he, hst⟩ := step_in h
    refine absurd ?_ (hn j h0 hj)
    obtain ⟨hs, h1, h2, h3, h4⟩ := h
    rw [hst] at hm
    unfold ofE
    rw [if_pos ⟨by omega, hm, hs⟩]
    have e1 : e + 1 + j - 1 = e + j := by omega
    rw [e1]
    exact he
  · rw [if_neg hm]
theorem next_bad {e s n : Int} (h : ¬ nextOk e s n) : nextE e s n = (0, 2) := if_neg h

theorem ret_two {a b a' b' : Int} (h1 : a = a') (h2 : b = b') : Ending.returned (.tuple #[.int .i64 a, .int .i64 b]) = .returned (.tuple #[.int .i64 a', .int .i64 b']) := by rw [h1, h2]

theorem next_no (e s n : Int) (w : World) (h : ¬ nextOk e s n) : Calls Try.prog 28 #[.int .i64 e, .int .i64 s, .int .i64 n] w fun r w' => r = .returned (.tuple #[.int .i64 (nextE e s n).1, .int .i64 (nextE e s n).2]) ∧ w' = w := by
  have hN := Lib.hid (next_bad h)
  cases hs : sitesE n with
  | false =>
    have hc := sites_any n w
    rw [hs] at hc
    have HC := Lib.hid hc
    clear hc hs h
    go_enter Try.func28, Try.ntmps28
    go_wp2_with fail
    refine HC.out.mono ?_
    rintro e w1 ⟨rfl, rfl⟩
    go_wp2_with fail
    go_ret2
    rw [hN.out]
    exact ⟨rfl, rfl⟩
  | true =>
    have hc := sites_any n w
    rw [hs] at hc
    have HC := Lib.hid hc
    clear hc
    have hcc : s < 0 ∨ (¬ s < 0 ∧ n ≤ s) ∨ (¬ s < 0 ∧ ¬ n ≤ s ∧ e < 0) ∨ (¬ s < 0 ∧ ¬ n ≤ s ∧ ¬ e < 0 ∧ (1048576 : Int) < e) := by
      have : ¬ (0 ≤ s ∧ s < n ∧ 0 ≤ e ∧ e ≤ 1048576) := fun hh => h ⟨hs, hh.1, hh.2.1, hh.2.2.1, hh.2.2.2⟩
      omega
    clear h hs
    rcases hcc with c1 | ⟨c1, c2⟩ | ⟨c1, c2, c3⟩ | ⟨c1, c2, c3, c4⟩
    all_goals
      go_enter Try.func28, Try.ntmps28
      go_wp2_with fail
      refine HC.out.mono ?_
      rintro e w1 ⟨rfl, rfl⟩
      go_wp2_with fail
      go_ret2
      rw [hN.out]
      exact ⟨rfl, rfl⟩
theorem rnext_no (e s n : Int) (w : World) (h : ¬ nextOk e s n) : Calls Try.prog 29 #[.int .i64 e, .int .i64 s, .int .i64 n] w fun r w' => r = .returned (.tuple #[.int .i64 (nextE e s n).1, .int .i64 (nextE e s n).2]) ∧ w' = w := by
  have hN := Lib.hid (next_bad h)
  cases hs : sitesE n with
  | false =>
    have hc := rsites_any n w
    rw [hs] at hc
    have HC := Lib.hid hc
    clear hc hs h
    go_enter Try.func29, Try.ntmps29
    go_wp2_with fail
    refine HC.out.mono ?_
    rintro e w1 ⟨rfl, rfl⟩
    go_wp2_with fail
    go_ret2
    rw [hN.out]
    exact ⟨rfl, rfl⟩
  | true =>
    have hc := rsites_any n w
    rw [hs] at hc
    have HC := Lib.hid hc
    clear hc
    have hcc : s < 0 ∨ (¬ s < 0 ∧ n ≤ s) ∨ (¬ s < 0 ∧ ¬ n ≤ s ∧ e < 0) ∨ (¬ s < 0 ∧ ¬ n ≤ s ∧ ¬ e < 0 ∧ (1048576 : Int) < e) := by
      have : ¬ (0 ≤ s ∧ s < n ∧ 0 ≤ e ∧ e ≤ 1048576) := fun hh => h ⟨hs, hh.1, hh.2.1, hh.2.2.1, hh.2.2.2⟩
      omega
    clear h hs
    rcases hcc with c1 | ⟨c1, c2⟩ | ⟨c1, c2, c3⟩ | ⟨c1, c2, c3, c4⟩
    all_goals
      go_enter Try.func29, Try.ntmps29
      go_wp2_with fail
      refine HC.out.mono ?_
      rintro e w1 ⟨rfl, rfl⟩
      go_wp2_with fail
      go_ret2
      rw [hN.out]
      exact ⟨rfl, rfl⟩

set_option maxHeartbeats 2000000 in
theorem next_any (e s n : Int) (w : World) : Calls Try.prog 28 #[.int .i64 e, .int .i64 s, .int .i64 n] w fun r w' => r = .returned (.tuple #[.int .i64 (nextE e s n).1, .int .i64 (nextE e s n).2]) ∧ w' = w := by
  by_cases h : nextOk e s n
  case neg => exact next_no e s n w h
  have h' := h
  obtain ⟨hs, h1, h2, h3, h4⟩ := h'
  have hc := sites_any n w
  rw [hs] at hc
  have HC := Lib.hid hc
  have g1 : ¬ s < 0 := by omega
  have g2 : ¬ n ≤ s := by omega
  have g3 : ¬ e < 0 := by omega
  have g4 : ¬ (1048576 : Int) < e := by omega
  have HP := Lib.hid h
  clear hc h
  have hx : ∃ x, stepE e s n = x ∧ e + 1 ≤ x ∧ x ≤ e + 7 := by
    obtain ⟨j, a, b, _, d⟩ := step_in HP.out
    have : n ≤ 7 := by rcases sites_cases hs with rfl | rfl | rfl | rfl | rfl | rfl <;> omega
    exact ⟨_, d, by omega, by omega⟩
  obtain ⟨x, hx, hxl, hxu⟩ := hx
  by_cases hm : x ≤ 1048576
  case' pos =>
    have hN := Lib.hid (show nextE e s n = (x, 0) from by unfold nextE; rw [if_pos HP.out, hx, if_pos hm])
    have hmb : ¬ (1048576 : Int) < x := by omega
  case' neg =>
    have hN := Lib.hid (show nextE e s n = (0, 3) from by unfold nextE; rw [if_pos HP.out, hx, if_neg hm])
    have hmb : (1048576 : Int) < x := by omega
  all_goals
    have HX := Lib.hid hx
    clear hx hm HP
    rcases sites_cases hs with rfl | rfl | rfl | rfl | rfl | rfl
  all_goals
    clear hs
    go_enter Try.func28, Try.ntmps28
    go_wp2_with fail
    refine HC.out.mono ?_
    rintro e w1 ⟨rfl, rfl⟩
    go_wp2_with fail
    all_goals
      have hX := HX.out
      unfold stepE at hX
      first
        | (exfalso; omega)
        | (go_ret2
           rw [hN.out]
           exact ⟨ret_two (by first | rfl | omega) (by first | rfl | omega), rfl⟩)

set_option maxHeartbeats 2000000 in
theorem rnext_any (e s n : Int) (w : World) : Calls Try.prog 29 #[.int .i64 e, .int .i64 s, .int .i64 n] w fun r w' => r = .returned (.tuple #[.int .i64 (nextE e s n).1, .int .i64 (nextE e s n).2]) ∧ w' = w := by
  by_cases h : nextOk e s n
  case neg => exact rnext_no e s n w h
  have h' := h
  obtain ⟨hs, h1, h2, h3, h4⟩ := h'
  have hc := rsites_any n w
  rw [hs] at hc
  have HC := Lib.hid hc
  have g1 : ¬ s < 0 := by omega
  have g2 : ¬ n ≤ s := by omega
  have g3 : ¬ e < 0 := by omega
  have g4 : ¬ (1048576 : Int) < e := by omega
  have HP := Lib.hid h
  have hn7 : 2 ≤ n ∧ n ≤ 7 := by rcases sites_cases hs with rfl | rfl | rfl | rfl | rfl | rfl <;> omega
  obtain ⟨N, rfl⟩ := Int.eq_ofNat_of_zero_le (show 0 ≤ n by omega)
  clear hc h hs
  go_enter Try.func29, Try.ntmps29
  go_wp2_with fail
  refine HC.out.mono ?_
  rintro r w1 ⟨rfl, rfl⟩
  go_wp2_with fail
  go_loopg [8] N (fun q i wr => ∃ j : Nat, q = N - j ∧ j ≤ N ∧ i = .int .i64 (e + 1 + j) ∧ (∀ m : Int, 0 ≤ m → m < j → ofE (e + 1 + m) N ≠ s) ∧ wr = w1)
  case atStart => exact ⟨0, rfl, by omega, by simp, fun m a b => by omega, rfl⟩
  case round =>
    obtain ⟨j, hq, hj, rfl, ht, rfl⟩ := hrel
    have AA : Aside (gk = N - j ∧ (∀ m : Int, 0 ≤ m → m < j → ofE (e + 1 + m) N ≠ s)) := ⟨hq, ht⟩
    clear hq ht
    have wn : IntKind.i64.wrap (e + (N : Int)) = e + N := IntWalk.i64_in _ ⟨by omega, by omega⟩
    have wn2 : wrap64 (e + (N : Int)) = e + N := by unfold wrap64; omega
    by_cases hlt : j < N
    · have d1 : e + 1 + (j : Int) ≤ e + N := by omega
      go_wp2_with fail
      refine (rof_any _ _ _).mono ?_
      rintro r w2 ⟨rfl, rfl⟩
      by_cases ho : ofE (e + 1 + j) N = s
      · have hob : (ofE (e + 1 + j) N == s) = true := by rw [beq_iff_eq]; exact ho
        have HN := Lib.hid (step_hit HP.out (by omega) (by omega) ho)
        clear ho
        go_wp2_with fail
        go_ret2
        rw [HN.out]
        exact ⟨rfl, rfl⟩
      · have hob : (ofE (e + 1 + j) N == s) = false := by rw [beq_eq_false_iff_ne]; exact ho
        have HO := Lib.hid ho
        clear ho
        go_wp2_with fail
        go_roundg (N - (j + 1))
        case measure => have hkk := AA.out.1; omega
        case rel =>
          refine ⟨j + 1, rfl, by omega, by go_num, fun m a b => ?_, rfl⟩
          by_cases hm : m = j
          · rw [hm]; exact HO.out
          · exact AA.out.2 m a (by omega)
    · obtain rfl : j = N := by omega
      have d1 : ¬ (e + 1 + (j : Int) ≤ e + j) := by omega
      have HN := Lib.hid (step_none HP.out AA.out.2)
      go_wp2_with fail
      go_ret2
      rw [HN.out]
      exact ⟨rfl, rfl⟩
end Go.Proofs.Ytlineikeafepcaa
