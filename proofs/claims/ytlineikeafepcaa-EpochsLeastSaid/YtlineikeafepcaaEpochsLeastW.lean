/-
  The walk over the statement EpochsLeast.
-/
import Derived.Test.YtlineikeafepcaaEpoWorks
import Derived.Deep.LoopGhost
set_option linter.unusedSimpArgs false
set_option linter.unusedVariables false
set_option maxRecDepth 100000
namespace Go.Proofs.Ytlineikeafepcaa
open Go Go.RowKit Go.Sq Go.Wd

/-- How often a site has been seen: of the d epochs behind a. -/
def seenB (a n : Int) (v : Int) : Nat → Bool
  | 0 => false
  | d + 1 => seenB a n v d || decide ((a + d) % n = v)
theorem seenB_iff {a n v : Int} : ∀ {d : Nat}, seenB a n v d = true ↔ ∃ m : Nat, m < d ∧ (a + m) % n = v
  | 0 => by simp [seenB]
  | d + 1 => by
    simp only [seenB, Bool.or_eq_true, decide_eq_true_eq, seenB_iff (d := d)]
    constructor
    · rintro (⟨m, h1, h2⟩ | h)
      · exact ⟨m, by omega, h2⟩
      · exact ⟨d, by omega, h⟩
    · rintro ⟨m, h1, h2⟩
      by_cases hm : m = d
      · subst hm; exact .inr h2
      · exact .inl ⟨m, by omega, h2⟩
def seenL (a n : Int) (d : Nat) : List Value := (List.range 8).map fun v => .int .i64 (if seenB a n (v : Nat) d = true then 1 else 0)
theorem seenL_at {a n : Int} {d V : Nat} (hV : V < 8) : (seenL a n d)[V]? = some (.int .i64 (if seenB a n (V : Nat) d = true then 1 else 0)) := by
  unfold seenL
  rw [List.getElem?_map, List.getElem?_range hV]
  rfl
theorem seen_new {a n : Int} (hn : sitesE n = true) {d : Nat} (hd : (d : Int) < n) {V : Nat} (hV : (a + d) % n = V) : seenB a n V d = false := by
  cases h : seenB a n V d with
  | false => rfl
  | true =>
    obtain ⟨m, h1, h2⟩ := seenB_iff.1 h
    rw [← hV] at h2
    rcases sites_cases hn with rfl | rfl | rfl | rfl | rfl | rfl <;> omega
theorem seenL_next {a n : Int} {d V : Nat} (hV : (a + d) % n = V) (h8 : V < 8) : (seenL a n d).set V (.int .i64 1) = seenL a n (d + 1) := by
  apply List.ext_getElem?
  intro i
  rw [List.getElem?_set]
  have hl : (seenL a n d).length = 8 := by simp [seenL]
  by_cases hi : V = i
  · subst hi
    rw [if_pos rfl, if_pos (by omega), seenL_at h8]
    simp [seenB, hV]
  · rw [if_neg hi]
    by_cases h : i < 8
    · rw [seenL_at h, seenL_at h]
      have : decide ((a + d) % n = (i : Nat)) = false := by rw [hV]; exact decide_eq_false (by omega)
      simp only [seenB, this, Bool.or_false]
    · rw [List.getElem?_eq_none (by omega), List.getElem?_eq_none (by simp [seenL]; omega)]
theorem seen_own {a n s : Int} (hn : sitesE n = true) {d : Nat} (hd : (d : Int) < n) (hs : (a - 1) % n = s) : (a + d) % n = s ↔ a + 1 + (d : Int) = a + n := by
  subst hs
  rcases sites_cases hn with rfl | rfl | rfl | rfl | rfl | rfl <;> omega

set_option maxHeartbeats 2000000 in
theorem epochsLeast_walk (e s n : Int) (w : World) (we : (Lit.int .i64 e).wf = true) (ws : (Lit.int .i64 s).wf = true) (wn : (Lit.int .i64 n).wf = true) : Calls Try.prog 10 #[.int .i64 e, .int .i64 s, .int .i64 n] w fun r w' => r = .returned (.bool true) ∧ Below w.heap.size w w' := by
  by_cases h : nextOk e s n
  case neg =>
    have h1 := next_any e s n w
    rw [next_bad h] at h1
    have H1 := Lib.hid h1
    clear h1
    go_enter Try.func10, Try.ntmps10
    go_wp2_with fail
    refine H1.out.mono ?_
    rintro r w1 ⟨rfl, rfl⟩
    go_wp2_with fail
    refine (works_any _).mono ?_
    rintro r w7 ⟨rfl, hb⟩
    go_wp2_with fail
    go_ret
    exact ⟨rfl, hb⟩
  have h1 := next_any e s n w
  have h' := h
  obtain ⟨hs, h2, h3, h4, h5⟩ := h'
  have hn7 : 2 ≤ n ∧ n ≤ 7 := by rcases sites_cases hs with rfl | rfl | rfl | rfl | rfl | rfl <;> omega
  obtain ⟨D, hD0, hDn, hDe, hDs⟩ := step_in h
  by_cases hm : stepE e s n ≤ 1048576
  case neg =>
    have hx : nextE e s n = (0, 3) := by unfold nextE; rw [if_pos h, if_neg hm]
    rw [hx] at h1
    have hb1 : (1048576 : Int) - n < e := by omega
    have wb : wrap64 (1048576 - n) = 1048576 - n := by unfold wrap64; omega
    have H1 := Lib.hid h1
    clear h1 h hx hD0 hDn hDe hDs hm
    go_enter Try.func10, Try.ntmps10
    go_wp2_with fail
    refine H1.out.mono ?_
    rintro r w1 ⟨rfl, rfl⟩
    go_wp2_with fail
    refine (works_any _).mono ?_
    rintro r w7 ⟨rfl, hb⟩
    go_wp2_with fail
    go_ret
    exact ⟨rfl, hb⟩
  have hx : nextE e s n = (stepE e s n, 0) := by unfold nextE; rw [if_pos h, if_pos hm]
  rw [hx] at h1
  obtain ⟨a, ha⟩ : ∃ a, stepE e s n = a := ⟨_, rfl⟩
  rw [ha] at h1 hm hDs
  have hof : ofE a n = s := by
    unfold ofE
    rw [if_pos ⟨by omega, hm, hs⟩, hDs]
    have e1 : e + 1 + D - 1 = e + D := by omega
    rw [e1]; exact hDe
  have hof2 : (ofE a n != s) = false := by rw [bne_eq_false_iff_eq]; exact hof
  have H1 := Lib.hid (And.intro h1 (And.intro hof (And.intro ha (And.intro hDe (And.intro h hDs)))))
  have c1 : ¬ a ≤ e := by omega
  have c2 : ¬ e + n < a := by omega
  have wb : wrap64 (e + n) = e + n := by unfold wrap64; omega
  have ha0 : 1 ≤ a := by omega
  have HS := Lib.hid hs
  clear h1 hof h hx hDe ha hs hDs
  obtain ⟨N, rfl⟩ := Int.eq_ofNat_of_zero_le (show 0 ≤ n by omega)
  obtain ⟨K, rfl⟩ := Int.eq_ofNat_of_zero_le hD0
  go_enter Try.func10, Try.ntmps10
  go_wp2_with fail
  refine H1.out.1.mono ?_
  rintro r w1 ⟨rfl, rfl⟩
  go_wp2_with fail
  refine (of_any a N _).mono ?_
  rintro r w2 ⟨rfl, rfl⟩
  go_wp2_with fail
  go_loopg [9] K (fun q i wr => ∃ j : Nat, q = K - j ∧ j ≤ K ∧ i = .int .i64 (e + 1 + j) ∧ wr = w2)
  case atStart => exact ⟨0, rfl, by omega, by simp, rfl⟩
  case round =>
    obtain ⟨j, hq, hj, rfl, rfl⟩ := hrel
    have AA : Aside (gk = K - j) := hq
    clear hq
    by_cases hlt : j < K
    · have d1 : e + 1 + (j : Int) < a := by have := H1.out.2.2.2.2.2; omega
      have hne : ofE (e + 1 + j) N ≠ s := by
        intro ho
        have := step_hit H1.out.2.2.2.2.1 (by omega) (by omega) ho
        have h2 := H1.out.2.2.1
        unfold nextE at this
        rw [if_pos H1.out.2.2.2.2.1, h2, if_pos hm] at this
        have := congrArg Prod.fst this
        simp only at this
        have := H1.out.2.2.2.2.2
        omega
      have hob : (ofE (e + 1 + j) N == s) = false := by rw [beq_eq_false_iff_ne]; exact hne
      clear hne
      go_wp2_with fail
      refine (of_any _ _ _).mono ?_
      rintro r w3 ⟨rfl, rfl⟩
      go_wp2_with fail
      go_roundg (K - (j + 1))
      case measure => have hkk := AA.out; omega
      case rel => exact ⟨j + 1, rfl, by omega, by go_num, rfl⟩
    · obtain rfl : j = K := by omega
      have d1 : ¬ e + 1 + (j : Int) < a := by have := H1.out.2.2.2.2.2; omega
      clear c1 c2 hof2
      have hal : (a - 1) % (N : Int) = s := by
        have h2 := H1.out.2.1
        unfold ofE at h2
        rwa [if_pos ⟨ha0, hm, HS.out⟩] at h2
      have HAL := Lib.hid hal
      have hb0 : Below wr.heap.size wr (wr.alloc (.cells (seenL a N 0).toArray 74)) := (Below.refl _ _).alloc (Nat.le_refl _) _
      have B0 := Blk.new wr 74 (seenL a N 0)
      have HB := Lib.hid (And.intro hb0 B0)
      clear hal hb0 B0 hD0 hDn wb h2 h3 h4 h5
      go_wp2_with fail
      clear d1
      obtain ⟨w3, rfl⟩ : ∃ z, z = wr := ⟨_, rfl⟩
      go_loopg [11] N (fun q i wr => ∃ d : Nat, q = N - d ∧ d ≤ N ∧ i = .int .i64 (a + 1 + d) ∧ Below w3.heap.size w3 wr ∧ Blk wr w3.heap.size 74 (seenL a N d))
      case atStart => exact ⟨0, rfl, by omega, by simp, HB.out.1, HB.out.2⟩
      case round =>
        clear HB
        obtain ⟨d, hq, hd, rfl, hB, B1⟩ := hrel
        have AA2 : Aside (gk = N - d) := hq
        clear hq
        have wb : wrap64 (a + (N : Int)) = a + N := by unfold wrap64; omega
        by_cases hdN : d < N
        case neg =>
          obtain rfl : d = N := by omega
          have d1 : ¬ a + 1 + (d : Int) ≤ a + d := by omega
          go_wp2_with fail
          refine (works_any _).mono ?_
          rintro r w7 ⟨rfl, hb⟩
          have hB7 := below_trans hB hb hB.size
          go_wp2_with fail
          go_ret
          exact ⟨rfl, hB7⟩
        have d1 : a + 1 + (d : Int) ≤ a + N := by omega
        by_cases hmx : a + 1 + (d : Int) ≤ 1048576
        case neg =>
          go_wp2_with fail
          refine (works_any _).mono ?_
          rintro r w7 ⟨rfl, hb⟩
          have hB7 := below_trans hB hb hB.size
          go_wp2_with fail
          go_ret
          exact ⟨rfl, hB7⟩
        have hov : ofE (a + 1 + d) N = (a + d) % (N : Int) := by
          unfold ofE
          rw [if_pos ⟨by omega, hmx, HS.out⟩]
          have e1 : a + 1 + (d : Int) - 1 = a + d := by omega
          rw [e1]
        have hv0 : 0 ≤ (a + (d : Int)) % N := Int.emod_nonneg _ (by omega)
        have hvn : (a + (d : Int)) % N < N := Int.emod_lt_of_pos _ (by omega)
        obtain ⟨V, hV⟩ := Int.eq_ofNat_of_zero_le hv0
        have hown := seen_own HS.out (d := d) (by omega) HAL.out
        rw [hV] at hov hvn hown
        have hV8 : V < 8 := by omega
        have hVN : V < N := by omega
        have hc := of_any (a + 1 + d) N wr
        rw [hov] at hc
        have HC := Lib.hid hc
        have cV := (B1.cell V).trans (seenL_at hV8)
        rw [seen_new HS.out (by omega) hV] at cV
        simp only [Bool.false_eq_true, if_false] at cV
        have fr := B1.frozen
        have lg := B1.lt
        have hbb : ((V : Int) == s) = (a + 1 + (d : Int) == a + N) := by rw [Bool.eq_iff_iff, beq_iff_eq, beq_iff_eq]; exact hown
        have B2 : Blk (wr.setCell ⟨w3.heap.size, V, none⟩ (.int .i64 1)) w3.heap.size 74 (seenL a N (d + 1)) := (B1.set V (.int .i64 1)).of_eq (seenL_next hV hV8)
        have hB2 : Below w3.heap.size w3 (wr.setCell ⟨w3.heap.size, V, none⟩ (.int .i64 1)) := hB.setCell (Nat.le_refl _) _
        have H2 := Lib.hid (And.intro hB2 B2)
        clear hB2 B2 hc hown hV hov hv0 hB B1
        go_wp2_with fail
        refine HC.out.mono ?_
        rintro r w4 ⟨rfl, rfl⟩
        clear HC
        go_wp2_with fail
        go_roundg (N - (d + 1))
        case measure => have hkk := AA2.out; omega
        case rel => exact ⟨d + 1, rfl, by omega, by go_num, H2.out.1, H2.out.2⟩
end Go.Proofs.Ytlineikeafepcaa
