/-
  The walks over the document's 'log' and 'Check' of registers.
  The walk over the document's 'Apply', of a view's record.
  The walk over the document's 'Apply'.
  What stands beside the walk over the document's 'lay'.
-/
import Derived.Test.YtdphfhenjndkkaaReplicasTakeK1
import Derived.Test.YtdphfhenjndkkaaReplicasTakeK2
import Derived.Test.YtdphfhenjndkkaaReplicasTakeK3
import Derived.Test.YtdphfhenjndkkaaReplicasTakeK4
import Derived.Test.YtdphfhenjndkkaaReplicasTakeK5
import Derived.Test.YtdphfhenjndkkaaReplicasTakeK6
set_option linter.unusedSimpArgs false
set_option linter.unusedVariables false
set_option maxRecDepth 100000
namespace Go.Proofs.Ytdphfhenjndkkaa
open Go Go.RowKit Go.Sq Go.Wd Go.Arch

set_option maxHeartbeats 2000000 in
theorem rmay09_any (x0 x1 x2 x3 x4 : Int) (w : World) :
    Calls Try.prog 100 #[.agg #[.int .i64 x0, .int .i64 x1, .int .i64 x2, .int .i64 x3, .int .i64 x4]] w fun e w' => e = .returned (.bool (ordOk ⟨x0, x1, x2, x3, x4⟩)) ∧ Below w.heap.size w w' := by
  go_enter Try.func100, Try.ntmps100
  go_wp2
  all_goals (go_ret; refine ⟨ret_bool ?_, by (repeat (first | with_reducible apply Below.drew | with_reducible refine Below.setCell ?_ (by first | exact Nat.le_refl _ | (simp; done) | (simp; omega) | omega) _ | with_reducible refine Below.alloc ?_ (by first | exact Nat.le_refl _ | (simp; done) | (simp; omega) | omega) _ | with_reducible exact Below.refl _ _ | with_reducible assumption))⟩)
  all_goals (try simp only [beq_iff_eq, decide_eq_true_eq, beq_eq_false_iff_ne, decide_eq_false_iff_not, bne_iff_ne, ne_eq, Bool.not_eq_true', Bool.not_eq_false', Int.not_le, Int.not_lt, not_false_eq_true, bne_eq_false_iff_eq] at *)
  all_goals (rw [Bool.eq_iff_iff]; simp [ordOk] at *; (try simp [*]); (first | done | omega))
theorem rcheck09_any (x0 x1 x2 x3 x4 : Int) (w : World) :
    Calls Try.prog 90 #[.agg #[.int .i64 x0, .int .i64 x1, .int .i64 x2, .int .i64 x3, .int .i64 x4]] w fun e w' => e = .returned (.int .i64 (errOf (ordOk ⟨x0, x1, x2, x3, x4⟩))) ∧ Below w.heap.size w w' := by
  have hw := Below.refl w.heap.size w
  go_enter Try.func90, Try.ntmps90
  go_wp2_with fail
  refine (rmay09_any _ _ _ _ _ _).mono ?_
  rintro e w1 ⟨rfl, hb⟩
  have hw1 := below_trans (hw.alloc (Nat.le_refl _) _) hb (by simp)
  clear hb
  cases hO : ordOk ⟨x0, x1, x2, x3, x4⟩ with
  | false =>
    have HN := Lib.hid hO
    go_wp2_with fail
    go_ret
    rw [HN.out]
    exact ⟨rfl, hw1⟩
  | true =>
    have HN := Lib.hid hO
    go_wp2_with fail
    go_ret
    rw [HN.out]
    exact ⟨rfl, hw1⟩

theorem okLog_fall {l : List Ent} {v : Int} {i : Nat} {x y : Ent} (hx : l[i]? = some x) (hy : l[i + 1]? = some y) (h : y.1 < x.1) : okLog l v = false := by
  cases hb : okLog l v
  · rfl
  · have := ((okLog_iff l v).1 hb).2.2
    rw [rises_no hx hy h] at this
    cases this

set_option maxHeartbeats 4000000 in
theorem rlog_any (l : List Ent) (A : Option Addr) (c : Nat) (v : Int) (w : World) (ha : Ents w w.heap.size A l) (hl : l.length ≤ 9223372036854775807) :
    Calls Try.prog 70 #[.slice A l.length c, .int .i64 v] w fun e w' => e = .returned (.bool (okLog l v)) ∧ Below w.heap.size w w' := by
  have hw := Below.refl w.heap.size w
  have HE := Lib.hid ha
  clear ha
  by_cases h64 : 64 < l.length
  · have HN := Lib.hid (okLog_long (v := v) h64)
    go_enter Try.func70, Try.ntmps70
    go_wp2_with fail
    go_ret
    rw [HN.out]
    exact ⟨rfl, hw⟩
  have h64' : l.length ≤ 64 := by omega
  go_enter Try.func70, Try.ntmps70
  go_wp2_with fail
  go_loopg [5] l.length (fun q i wr => ∃ (j : Nat), q = l.length - j ∧ j ≤ l.length ∧ i = .int .i64 j ∧ ((∀ e ∈ l.take j, okEnt v e = true) ∧ (∀ i x y, i + 1 < j → l[i]? = some x → l[i + 1]? = some y → x.1 ≤ y.1)) ∧ Below w.heap.size w wr)
  case atStart => exact ⟨0, rfl, by omega, rfl, ⟨by simp, fun i _ _ h => absurd h (by omega)⟩, hw⟩
  case round =>
    clear hw
    obtain ⟨j, hq, hj, rfl, ht, hB⟩ := hrel
    have AA : Aside (gk = l.length - j ∧ (∀ e ∈ l.take j, okEnt v e = true) ∧ (∀ i x y, i + 1 < j → l[i]? = some x → l[i + 1]? = some y → x.1 ≤ y.1)) := ⟨hq, ht⟩
    clear hq ht
    by_cases hlt : j < l.length
    · obtain ⟨b1, o1, x, rfl, hx, FA⟩ := HE.out.at_ hlt
      have hz := hB.size
      have hbad : Hid (∀ b : Bool, b = false → (x.1 < 1 ∨ v < x.1 ∨ (∃ y, 0 < j ∧ l[j - 1]? = some y ∧ x.1 < y.1)) → okLog l v = b) := Lib.hid (fun b hb h => by
        subst hb
        rcases h with h | h | ⟨y, h0, hy, h⟩
        · exact okLog_no hx.out (okEnt_no (.inl (by omega)))
        · exact okLog_no hx.out (okEnt_no (.inl (by omega)))
        · exact okLog_fall hy (by rw [Nat.sub_add_cancel h0]; exact hx.out) h)
      by_cases h1 : x.1 < 1
      · have HN := Lib.hid (hbad.out false rfl (.inl h1))
        clear hbad
        go_wp2_with fail
        refine wp_region_p ([(0, true), (1, true), (2, true), (3, true), (4, true), (5, true), (6, true), (7, true), (8, true), (9, true), (10, true), (11, true), (12, true), (13, true), (14, true), (15, true), (16, true), (17, true), (18, true), (19, true), (20, true), (21, true), (22, true), (23, true), (24, true), (25, true), (26, true), (27, true), (28, true), (29, true), (30, true), (31, true), (32, true), (33, true), (34, true), (35, true), (36, true), (37, true), (38, true), (39, false), (40, true), (41, true)]) (fun w' => Below w.heap.size w w') (by kernel_rfl) rfl (by kernel_rfl) (by kernel_rfl) (hB.drew) rfl ?_
        intro KP RP TP hKP hTP hTP'
        simp only [pick, nth]
        go_wp2_with (first
          | (apply SeqP.skip; rfl; simp only [Act.put, List.setIfInBounds_toArray, List.set_cons_zero, List.set_cons_succ])
          | (apply SeqP.call; rfl; rfl; (intro w2 hw; have hw := hTP _ hw; ((obtain ⟨q0, q1, q2, q3, q4, q5⟩ := FA _ hw)); go_simp; exact ⟨rfl, rfl⟩); (intro w2 hw; have hw := hTP _ hw; ((obtain ⟨q0, q1, q2, q3, q4, q5⟩ := FA _ hw)); (first | fail)); simp only [Act.put, List.setIfInBounds_toArray, List.set_cons_zero, List.set_cons_succ])
          | (apply SeqP.pure; rfl; (intro w2 hw; have hw := hTP _ hw; ((obtain ⟨q0, q1, q2, q3, q4, q5⟩ := FA _ hw)); go_simp; with_reducible rfl); simp only [Act.put, List.setIfInBounds_toArray, List.set_cons_zero, List.set_cons_succ])
          | (apply SeqP.split; rfl; rfl; all_goals (intro hc; simp only [hc]; try simp only [beq_iff_eq, decide_eq_true_eq, beq_eq_false_iff_ne, decide_eq_false_iff_not, bne_iff_ne, ne_eq, Bool.not_eq_true', Bool.not_eq_false', Int.not_le, Int.not_lt, bne_eq_false_iff_eq, Bool.or_eq_true, Bool.and_eq_true, Bool.or_eq_false_iff] at hc)))
        apply SeqP.skip_eff
        · rfl
        · exact hTP' _ (hB.drew)
        (try simp only [Act.put, List.setIfInBounds_toArray, List.set_cons_zero, List.set_cons_succ])
        go_wp2_with (first
          | (apply SeqP.skip; rfl; simp only [Act.put, List.setIfInBounds_toArray, List.set_cons_zero, List.set_cons_succ])
          | (apply SeqP.call; rfl; rfl; (intro w2 hw; have hw := hTP _ hw; ((obtain ⟨q0, q1, q2, q3, q4, q5⟩ := FA _ hw)); go_simp; exact ⟨rfl, rfl⟩); (intro w2 hw; have hw := hTP _ hw; ((obtain ⟨q0, q1, q2, q3, q4, q5⟩ := FA _ hw)); (first | fail)); simp only [Act.put, List.setIfInBounds_toArray, List.set_cons_zero, List.set_cons_succ])
          | (apply SeqP.pure; rfl; (intro w2 hw; have hw := hTP _ hw; ((obtain ⟨q0, q1, q2, q3, q4, q5⟩ := FA _ hw)); go_simp; with_reducible rfl); simp only [Act.put, List.setIfInBounds_toArray, List.set_cons_zero, List.set_cons_succ])
          | (apply SeqP.split; rfl; rfl; all_goals (intro hc; simp only [hc]; try simp only [beq_iff_eq, decide_eq_true_eq, beq_eq_false_iff_ne, decide_eq_false_iff_not, bne_iff_ne, ne_eq, Bool.not_eq_true', Bool.not_eq_false', Int.not_le, Int.not_lt, bne_eq_false_iff_eq, Bool.or_eq_true, Bool.and_eq_true, Bool.or_eq_false_iff] at hc)))
        apply SeqP.nil
        refine hKP _ _ (hTP' _ (hB.drew)) ?_
        clear hKP hTP hTP'
        go_wp2_with fail
        go_ret
        rw [HN.out]
        exact ⟨rfl, hB.drew⟩
      by_cases h2 : v < x.1
      · have HN := Lib.hid (hbad.out false rfl (.inr (.inl h2)))
        clear hbad
        go_wp2_with fail
        refine wp_region_p ([(0, true), (1, true), (2, true), (3, true), (4, true), (5, true), (6, true), (7, true), (8, true), (9, true), (10, true), (11, true), (12, true), (13, true), (14, true), (15, true), (16, true), (17, true), (18, true), (19, true), (20, true), (21, true), (22, true), (23, true), (24, true), (25, true), (26, true), (27, true), (28, true), (29, true), (30, true), (31, true), (32, true), (33, true), (34, true), (35, true), (36, true), (37, true), (38, true), (39, false), (40, true), (41, true)]) (fun w' => Below w.heap.size w w') (by kernel_rfl) rfl (by kernel_rfl) (by kernel_rfl) (hB.drew) rfl ?_
        intro KP RP TP hKP hTP hTP'
        simp only [pick, nth]
        go_wp2_with (first
          | (apply SeqP.skip; rfl; simp only [Act.put, List.setIfInBounds_toArray, List.set_cons_zero, List.set_cons_succ])
          | (apply SeqP.call; rfl; rfl; (intro w2 hw; have hw := hTP _ hw; ((obtain ⟨q0, q1, q2, q3, q4, q5⟩ := FA _ hw)); go_simp; exact ⟨rfl, rfl⟩); (intro w2 hw; have hw := hTP _ hw; ((obtain ⟨q0, q1, q2, q3, q4, q5⟩ := FA _ hw)); (first | fail)); simp only [Act.put, List.setIfInBounds_toArray, List.set_cons_zero, List.set_cons_succ])
          | (apply SeqP.pure; rfl; (intro w2 hw; have hw := hTP _ hw; ((obtain ⟨q0, q1, q2, q3, q4, q5⟩ := FA _ hw)); go_simp; with_reducible rfl); simp only [Act.put, List.setIfInBounds_toArray, List.set_cons_zero, List.set_cons_succ])
          | (apply SeqP.split; rfl; rfl; all_goals (intro hc; simp only [hc]; try simp only [beq_iff_eq, decide_eq_true_eq, beq_eq_false_iff_ne, decide_eq_false_iff_not, bne_iff_ne, ne_eq, Bool.not_eq_true', Bool.not_eq_false', Int.not_le, Int.not_lt, bne_eq_false_iff_eq, Bool.or_eq_true, Bool.and_eq_true, Bool.or_eq_false_iff] at hc)))
        all_goals first | (exfalso; omega) | skip
        apply SeqP.skip_eff
        · rfl
        · exact hTP' _ (hB.drew)
        (try simp only [Act.put, List.setIfInBounds_toArray, List.set_cons_zero, List.set_cons_succ])
        go_wp2_with (first
          | (apply SeqP.skip; rfl; simp only [Act.put, List.setIfInBounds_toArray, List.set_cons_zero, List.set_cons_succ])
          | (apply SeqP.call; rfl; rfl; (intro w2 hw; have hw := hTP _ hw; ((obtain ⟨q0, q1, q2, q3, q4, q5⟩ := FA _ hw)); go_simp; exact ⟨rfl, rfl⟩); (intro w2 hw; have hw := hTP _ hw; ((obtain ⟨q0, q1, q2, q3, q4, q5⟩ := FA _ hw)); (first | fail)); simp only [Act.put, List.setIfInBounds_toArray, List.set_cons_zero, List.set_cons_succ])
          | (apply SeqP.pure; rfl; (intro w2 hw; have hw := hTP _ hw; ((obtain ⟨q0, q1, q2, q3, q4, q5⟩ := FA _ hw)); go_simp; with_reducible rfl); simp only [Act.put, List.setIfInBounds_toArray, List.set_cons_zero, List.set_cons_succ])
          | (apply SeqP.split; rfl; rfl; all_goals (intro hc; simp only [hc]; try simp only [beq_iff_eq, decide_eq_true_eq, beq_eq_false_iff_ne, decide_eq_false_iff_not, bne_iff_ne, ne_eq, Bool.not_eq_true', Bool.not_eq_false', Int.not_le, Int.not_lt, bne_eq_false_iff_eq, Bool.or_eq_true, Bool.and_eq_true, Bool.or_eq_false_iff] at hc)))
        all_goals first | (exfalso; omega) | skip
        apply SeqP.nil
        refine hKP _ _ (hTP' _ (hB.drew)) ?_
        clear hKP hTP hTP'
        go_wp2_with fail
        go_ret
        rw [HN.out]
        exact ⟨rfl, hB.drew⟩
      rcases Nat.eq_zero_or_pos j with h0 | h0
      · have hj0 : ¬ (0 : Int) < (j : Int) := by omega
        have HR : Hid (∀ i y z, i + 1 < j + 1 → l[i]? = some y → l[i + 1]? = some z → y.1 ≤ z.1) := Lib.hid (fun i y z hi _ _ => absurd hi (by omega))
        clear hbad h0
        go_wp2_with fail
        refine wp_region_p ([(0, true), (1, true), (2, true), (3, true), (4, true), (5, true), (6, true), (7, true), (8, true), (9, true), (10, true), (11, true), (12, true), (13, true), (14, true), (15, true), (16, true), (17, true), (18, true), (19, true), (20, true), (21, true), (22, true), (23, true), (24, true), (25, true), (26, true), (27, true), (28, true), (29, true), (30, true), (31, true), (32, true), (33, true), (34, true), (35, true), (36, true), (37, true), (38, true), (39, false), (40, true), (41, true)]) (fun w' => Below w.heap.size w w') (by kernel_rfl) rfl (by kernel_rfl) (by kernel_rfl) (hB.drew) rfl ?_
        intro KP RP TP hKP hTP hTP'
        simp only [pick, nth]
        go_wp2_with (first
          | (apply SeqP.skip; rfl; simp only [Act.put, List.setIfInBounds_toArray, List.set_cons_zero, List.set_cons_succ])
          | (apply SeqP.call; rfl; rfl; (intro w2 hw; have hw := hTP _ hw; ((obtain ⟨q0, q1, q2, q3, q4, q5⟩ := FA _ hw)); go_simp; exact ⟨rfl, rfl⟩); (intro w2 hw; have hw := hTP _ hw; ((obtain ⟨q0, q1, q2, q3, q4, q5⟩ := FA _ hw)); (first | fail)); simp only [Act.put, List.setIfInBounds_toArray, List.set_cons_zero, List.set_cons_succ])
          | (apply SeqP.pure; rfl; (intro w2 hw; have hw := hTP _ hw; ((obtain ⟨q0, q1, q2, q3, q4, q5⟩ := FA _ hw)); go_simp; with_reducible rfl); simp only [Act.put, List.setIfInBounds_toArray, List.set_cons_zero, List.set_cons_succ])
          | (apply SeqP.split; rfl; rfl; all_goals (intro hc; simp only [hc]; try simp only [beq_iff_eq, decide_eq_true_eq, beq_eq_false_iff_ne, decide_eq_false_iff_not, bne_iff_ne, ne_eq, Bool.not_eq_true', Bool.not_eq_false', Int.not_le, Int.not_lt, bne_eq_false_iff_eq, Bool.or_eq_true, Bool.and_eq_true, Bool.or_eq_false_iff] at hc)))
        all_goals first | (exfalso; omega) | skip
        apply SeqP.eff
        · rfl
        intro KE hKE
        go_wp2_with fail
        refine (rcheck09_any _ _ _ _ _ _).mono ?_
        rintro e w1 ⟨rfl, hb⟩
        have hB1 := below_trans hB.drew hb hz
        refine hKE _ _ (hTP' _ hB1) ?_
        clear hKE KE hb
        cases hO : ordOk ⟨x.2.1, x.2.2.1, x.2.2.2.1, x.2.2.2.2.1, x.2.2.2.2.2⟩ with
        | false =>
          have HN := Lib.hid (okLog_no hx.out (okEnt_no (v := v) (.inr hO)))
          simp only [errOf]
          go_wp2_with (first
            | (apply SeqP.skip; rfl; simp only [Act.put, List.setIfInBounds_toArray, List.set_cons_zero, List.set_cons_succ])
            | (apply SeqP.call; rfl; rfl; (intro w2 hw; have hw := hTP _ hw; ((obtain ⟨q0, q1, q2, q3, q4, q5⟩ := FA _ hw)); go_simp; exact ⟨rfl, rfl⟩); (intro w2 hw; have hw := hTP _ hw; ((obtain ⟨q0, q1, q2, q3, q4, q5⟩ := FA _ hw)); (first | fail)); simp only [Act.put, List.setIfInBounds_toArray, List.set_cons_zero, List.set_cons_succ])
            | (apply SeqP.pure; rfl; (intro w2 hw; have hw := hTP _ hw; ((obtain ⟨q0, q1, q2, q3, q4, q5⟩ := FA _ hw)); go_simp; with_reducible rfl); simp only [Act.put, List.setIfInBounds_toArray, List.set_cons_zero, List.set_cons_succ])
            | (apply SeqP.split; rfl; rfl; all_goals (intro hc; simp only [hc]; try simp only [beq_iff_eq, decide_eq_true_eq, beq_eq_false_iff_ne, decide_eq_false_iff_not, bne_iff_ne, ne_eq, Bool.not_eq_true', Bool.not_eq_false', Int.not_le, Int.not_lt, bne_eq_false_iff_eq, Bool.or_eq_true, Bool.and_eq_true, Bool.or_eq_false_iff] at hc)))
          all_goals first | (exfalso; omega) | skip
          apply SeqP.nil
          refine hKP _ _ (hTP' _ (hB1)) ?_
          clear hKP hTP hTP'
          go_wp2_with fail
          go_ret
          rw [HN.out]
          exact ⟨rfl, hB1⟩
        | true =>
          have HT : Hid ((∀ e ∈ l.take (j + 1), okEnt v e = true) ∧ (∀ i x y, i + 1 < j + 1 → l[i]? = some x → l[i + 1]? = some y → x.1 ≤ y.1)) := Lib.hid ⟨fun e he => by
            rw [List.take_add_one, hx.out] at he
            rcases List.mem_append.1 he with he | he
            · exact AA.out.2.1 e he
            · obtain rfl : e = x := by simpa using he
              unfold okEnt
              have hO' : ordOk (ordE e) = true := hO
              rw [hO', decide_eq_true (by omega)]
              rfl, fun i y z hi hy hz => HR.out i y z hi hy hz⟩
          simp only [errOf]
          go_wp2_with (first
            | (apply SeqP.skip; rfl; simp only [Act.put, List.setIfInBounds_toArray, List.set_cons_zero, List.set_cons_succ])
            | (apply SeqP.call; rfl; rfl; (intro w2 hw; have hw := hTP _ hw; ((obtain ⟨q0, q1, q2, q3, q4, q5⟩ := FA _ hw)); go_simp; exact ⟨rfl, rfl⟩); (intro w2 hw; have hw := hTP _ hw; ((obtain ⟨q0, q1, q2, q3, q4, q5⟩ := FA _ hw)); (first | fail)); simp only [Act.put, List.setIfInBounds_toArray, List.set_cons_zero, List.set_cons_succ])
            | (apply SeqP.pure; rfl; (intro w2 hw; have hw := hTP _ hw; ((obtain ⟨q0, q1, q2, q3, q4, q5⟩ := FA _ hw)); go_simp; with_reducible rfl); simp only [Act.put, List.setIfInBounds_toArray, List.set_cons_zero, List.set_cons_succ])
            | (apply SeqP.split; rfl; rfl; all_goals (intro hc; simp only [hc]; try simp only [beq_iff_eq, decide_eq_true_eq, beq_eq_false_iff_ne, decide_eq_false_iff_not, bne_iff_ne, ne_eq, Bool.not_eq_true', Bool.not_eq_false', Int.not_le, Int.not_lt, bne_eq_false_iff_eq, Bool.or_eq_true, Bool.and_eq_true, Bool.or_eq_false_iff] at hc)))
          all_goals first | (exfalso; omega) | skip
          apply SeqP.nil
          refine hKP _ _ (hTP' _ (hB1)) ?_
          clear hKP hTP hTP'
          go_wp2_with fail
          go_roundg (l.length - (j + 1))
          case measure => have hkk := AA.out.1; omega
          case rel => exact ⟨j + 1, rfl, by omega, by go_num, HT.out, hB1⟩
      have hj0 : (0 : Int) < (j : Int) := by omega
      have hj1 : j - 1 < l.length := by omega
      have wj : IntKind.i64.wrap ((j : Int) - 1) = ((j - 1 : Nat) : Int) := by rw [IntWalk.i64_in _ (by omega)]; omega
      have wj2 : wrap64 ((j : Int) - 1) = ((j - 1 : Nat) : Int) := by unfold wrap64; omega
      obtain ⟨b2, o2, y, hA2, hy, FY⟩ := HE.out.at_ hj1
      cases hA2
      by_cases h3 : x.1 < y.1
      · have HN := Lib.hid (hbad.out false rfl (.inr (.inr ⟨y, h0, hy.out, h3⟩)))
        clear hbad
        go_wp2_with fail
        refine wp_region_p ([(0, true), (1, true), (2, true), (3, true), (4, true), (5, true), (6, true), (7, true), (8, true), (9, true), (10, true), (11, true), (12, true), (13, true), (14, true), (15, true), (16, true), (17, true), (18, true), (19, true), (20, true), (21, true), (22, true), (23, true), (24, true), (25, true), (26, true), (27, true), (28, true), (29, true), (30, true), (31, true), (32, true), (33, true), (34, true), (35, true), (36, true), (37, true), (38, true), (39, false), (40, true), (41, true)]) (fun w' => Below w.heap.size w w') (by kernel_rfl) rfl (by kernel_rfl) (by kernel_rfl) (hB.drew) rfl ?_
        intro KP RP TP hKP hTP hTP'
        simp only [pick, nth]
        go_wp2_with (first
          | (apply SeqP.skip; rfl; simp only [Act.put, List.setIfInBounds_toArray, List.set_cons_zero, List.set_cons_succ])
          | (apply SeqP.call; rfl; rfl; (intro w2 hw; have hw := hTP _ hw; ((obtain ⟨q0, q1, q2, q3, q4, q5⟩ := FA _ hw; obtain ⟨p0, p1, p2, p3, p4, p5⟩ := FY _ hw)); go_simp; exact ⟨rfl, rfl⟩); (intro w2 hw; have hw := hTP _ hw; ((obtain ⟨q0, q1, q2, q3, q4, q5⟩ := FA _ hw; obtain ⟨p0, p1, p2, p3, p4, p5⟩ := FY _ hw)); (first | fail)); simp only [Act.put, List.setIfInBounds_toArray, List.set_cons_zero, List.set_cons_succ])
          | (apply SeqP.pure; rfl; (intro w2 hw; have hw := hTP _ hw; ((obtain ⟨q0, q1, q2, q3, q4, q5⟩ := FA _ hw; obtain ⟨p0, p1, p2, p3, p4, p5⟩ := FY _ hw)); go_simp; with_reducible rfl); simp only [Act.put, List.setIfInBounds_toArray, List.set_cons_zero, List.set_cons_succ])
          | (apply SeqP.split; rfl; rfl; all_goals (intro hc; simp only [hc]; try simp only [beq_iff_eq, decide_eq_true_eq, beq_eq_false_iff_ne, decide_eq_false_iff_not, bne_iff_ne, ne_eq, Bool.not_eq_true', Bool.not_eq_false', Int.not_le, Int.not_lt, bne_eq_false_iff_eq, Bool.or_eq_true, Bool.and_eq_true, Bool.or_eq_false_iff] at hc)))
        all_goals first | (exfalso; omega) | skip
        apply SeqP.skip_eff
        · rfl
        · exact hTP' _ (hB.drew)
        (try simp only [Act.put, List.setIfInBounds_toArray, List.set_cons_zero, List.set_cons_succ])
        go_wp2_with (first
          | (apply SeqP.skip; rfl; simp only [Act.put, List.setIfInBounds_toArray, List.set_cons_zero, List.set_cons_succ])
          | (apply SeqP.call; rfl; rfl; (intro w2 hw; have hw := hTP _ hw; ((obtain ⟨q0, q1, q2, q3, q4, q5⟩ := FA _ hw; obtain ⟨p0, p1, p2, p3, p4, p5⟩ := FY _ hw)); go_simp; exact ⟨rfl, rfl⟩); (intro w2 hw; have hw := hTP _ hw; ((obtain ⟨q0, q1, q2, q3, q4, q5⟩ := FA _ hw; obtain ⟨p0, p1, p2, p3, p4, p5⟩ := FY _ hw)); (first | fail)); simp only [Act.put, List.setIfInBounds_toArray, List.set_cons_zero, List.set_cons_succ])
          | (apply SeqP.pure; rfl; (intro w2 hw; have hw := hTP _ hw; ((obtain ⟨q0, q1, q2, q3, q4, q5⟩ := FA _ hw; obtain ⟨p0, p1, p2, p3, p4, p5⟩ := FY _ hw)); go_simp; with_reducible rfl); simp only [Act.put, List.setIfInBounds_toArray, List.set_cons_zero, List.set_cons_succ])
          | (apply SeqP.split; rfl; rfl; all_goals (intro hc; simp only [hc]; try simp only [beq_iff_eq, decide_eq_true_eq, beq_eq_false_iff_ne, decide_eq_false_iff_not, bne_iff_ne, ne_eq, Bool.not_eq_true', Bool.not_eq_false', Int.not_le, Int.not_lt, bne_eq_false_iff_eq, Bool.or_eq_true, Bool.and_eq_true, Bool.or_eq_false_iff] at hc)))
        all_goals first | (exfalso; omega) | skip
        apply SeqP.nil
        refine hKP _ _ (hTP' _ (hB.drew)) ?_
        clear hKP hTP hTP'
        go_wp2_with fail
        go_ret
        rw [HN.out]
        exact ⟨rfl, hB.drew⟩
      · have HR : Hid (∀ i y z, i + 1 < j + 1 → l[i]? = some y → l[i + 1]? = some z → y.1 ≤ z.1) := Lib.hid (fun i y' z hi hy' hz' => by
          rcases Nat.lt_or_ge (i + 1) j with h | h
          · exact AA.out.2.2 i y' z h hy' hz'
          · obtain rfl : j = i + 1 := by omega
            have e1 := hy.out
            have e2 := hx.out
            rw [Nat.add_sub_cancel, hy'] at e1
            rw [hz'] at e2
            cases e1
            cases e2
            omega)
        clear hbad
        go_wp2_with fail
        refine wp_region_p ([(0, true), (1, true), (2, true), (3, true), (4, true), (5, true), (6, true), (7, true), (8, true), (9, true), (10, true), (11, true), (12, true), (13, true), (14, true), (15, true), (16, true), (17, true), (18, true), (19, true), (20, true), (21, true), (22, true), (23, true), (24, true), (25, true), (26, true), (27, true), (28, true), (29, true), (30, true), (31, true), (32, true), (33, true), (34, true), (35, true), (36, true), (37, true), (38, true), (39, false), (40, true), (41, true)]) (fun w' => Below w.heap.size w w') (by kernel_rfl) rfl (by kernel_rfl) (by kernel_rfl) (hB.drew) rfl ?_
        intro KP RP TP hKP hTP hTP'
        simp only [pick, nth]
        go_wp2_with (first
          | (apply SeqP.skip; rfl; simp only [Act.put, List.setIfInBounds_toArray, List.set_cons_zero, List.set_cons_succ])
          | (apply SeqP.call; rfl; rfl; (intro w2 hw; have hw := hTP _ hw; ((obtain ⟨q0, q1, q2, q3, q4, q5⟩ := FA _ hw; obtain ⟨p0, p1, p2, p3, p4, p5⟩ := FY _ hw)); go_simp; exact ⟨rfl, rfl⟩); (intro w2 hw; have hw := hTP _ hw; ((obtain ⟨q0, q1, q2, q3, q4, q5⟩ := FA _ hw; obtain ⟨p0, p1, p2, p3, p4, p5⟩ := FY _ hw)); (first | fail)); simp only [Act.put, List.setIfInBounds_toArray, List.set_cons_zero, List.set_cons_succ])
          | (apply SeqP.pure; rfl; (intro w2 hw; have hw := hTP _ hw; ((obtain ⟨q0, q1, q2, q3, q4, q5⟩ := FA _ hw; obtain ⟨p0, p1, p2, p3, p4, p5⟩ := FY _ hw)); go_simp; with_reducible rfl); simp only [Act.put, List.setIfInBounds_toArray, List.set_cons_zero, List.set_cons_succ])
          | (apply SeqP.split; rfl; rfl; all_goals (intro hc; simp only [hc]; try simp only [beq_iff_eq, decide_eq_true_eq, beq_eq_false_iff_ne, decide_eq_false_iff_not, bne_iff_ne, ne_eq, Bool.not_eq_true', Bool.not_eq_false', Int.not_le, Int.not_lt, bne_eq_false_iff_eq, Bool.or_eq_true, Bool.and_eq_true, Bool.or_eq_false_iff] at hc)))
        all_goals first | (exfalso; omega) | skip
        apply SeqP.eff
        · rfl
        intro KE hKE
        go_wp2_with fail
        refine (rcheck09_any _ _ _ _ _ _).mono ?_
        rintro e w1 ⟨rfl, hb⟩
        have hB1 := below_trans hB.drew hb hz
        refine hKE _ _ (hTP' _ hB1) ?_
        clear hKE KE hb
        cases hO : ordOk ⟨x.2.1, x.2.2.1, x.2.2.2.1, x.2.2.2.2.1, x.2.2.2.2.2⟩ with
        | false =>
          have HN := Lib.hid (okLog_no hx.out (okEnt_no (v := v) (.inr hO)))
          simp only [errOf]
          go_wp2_with (first
            | (apply SeqP.skip; rfl; simp only [Act.put, List.setIfInBounds_toArray, List.set_cons_zero, List.set_cons_succ])
            | (apply SeqP.call; rfl; rfl; (intro w2 hw; have hw := hTP _ hw; ((obtain ⟨q0, q1, q2, q3, q4, q5⟩ := FA _ hw; obtain ⟨p0, p1, p2, p3, p4, p5⟩ := FY _ hw)); go_simp; exact ⟨rfl, rfl⟩); (intro w2 hw; have hw := hTP _ hw; ((obtain ⟨q0, q1, q2, q3, q4, q5⟩ := FA _ hw; obtain ⟨p0, p1, p2, p3, p4, p5⟩ := FY _ hw)); (first | fail)); simp only [Act.put, List.setIfInBounds_toArray, List.set_cons_zero, List.set_cons_succ])
            | (apply SeqP.pure; rfl; (intro w2 hw; have hw := hTP _ hw; ((obtain ⟨q0, q1, q2, q3, q4, q5⟩ := FA _ hw; obtain ⟨p0, p1, p2, p3, p4, p5⟩ := FY _ hw)); go_simp; with_reducible rfl); simp only [Act.put, List.setIfInBounds_toArray, List.set_cons_zero, List.set_cons_succ])
            | (apply SeqP.split; rfl; rfl; all_goals (intro hc; simp only [hc]; try simp only [beq_iff_eq, decide_eq_true_eq, beq_eq_false_iff_ne, decide_eq_false_iff_not, bne_iff_ne, ne_eq, Bool.not_eq_true', Bool.not_eq_false', Int.not_le, Int.not_lt, bne_eq_false_iff_eq, Bool.or_eq_true, Bool.and_eq_true, Bool.or_eq_false_iff] at hc)))
          all_goals first | (exfalso; omega) | skip
          apply SeqP.nil
          refine hKP _ _ (hTP' _ (hB1)) ?_
          clear hKP hTP hTP'
          go_wp2_with fail
          go_ret
          rw [HN.out]
          exact ⟨rfl, hB1⟩
        | true =>
          have HT : Hid ((∀ e ∈ l.take (j + 1), okEnt v e = true) ∧ (∀ i x y, i + 1 < j + 1 → l[i]? = some x → l[i + 1]? = some y → x.1 ≤ y.1)) := Lib.hid ⟨fun e he => by
            rw [List.take_add_one, hx.out] at he
            rcases List.mem_append.1 he with he | he
            · exact AA.out.2.1 e he
            · obtain rfl : e = x := by simpa using he
              unfold okEnt
              have hO' : ordOk (ordE e) = true := hO
              rw [hO', decide_eq_true (by omega)]
              rfl, fun i y z hi hy hz => HR.out i y z hi hy hz⟩
          simp only [errOf]
          go_wp2_with (first
            | (apply SeqP.skip; rfl; simp only [Act.put, List.setIfInBounds_toArray, List.set_cons_zero, List.set_cons_succ])
            | (apply SeqP.call; rfl; rfl; (intro w2 hw; have hw := hTP _ hw; ((obtain ⟨q0, q1, q2, q3, q4, q5⟩ := FA _ hw; obtain ⟨p0, p1, p2, p3, p4, p5⟩ := FY _ hw)); go_simp; exact ⟨rfl, rfl⟩); (intro w2 hw; have hw := hTP _ hw; ((obtain ⟨q0, q1, q2, q3, q4, q5⟩ := FA _ hw; obtain ⟨p0, p1, p2, p3, p4, p5⟩ := FY _ hw)); (first | fail)); simp only [Act.put, List.setIfInBounds_toArray, List.set_cons_zero, List.set_cons_succ])
            | (apply SeqP.pure; rfl; (intro w2 hw; have hw := hTP _ hw; ((obtain ⟨q0, q1, q2, q3, q4, q5⟩ := FA _ hw; obtain ⟨p0, p1, p2, p3, p4, p5⟩ := FY _ hw)); go_simp; with_reducible rfl); simp only [Act.put, List.setIfInBounds_toArray, List.set_cons_zero, List.set_cons_succ])
            | (apply SeqP.split; rfl; rfl; all_goals (intro hc; simp only [hc]; try simp only [beq_iff_eq, decide_eq_true_eq, beq_eq_false_iff_ne, decide_eq_false_iff_not, bne_iff_ne, ne_eq, Bool.not_eq_true', Bool.not_eq_false', Int.not_le, Int.not_lt, bne_eq_false_iff_eq, Bool.or_eq_true, Bool.and_eq_true, Bool.or_eq_false_iff] at hc)))
          all_goals first | (exfalso; omega) | skip
          apply SeqP.nil
          refine hKP _ _ (hTP' _ (hB1)) ?_
          clear hKP hTP hTP'
          go_wp2_with fail
          go_roundg (l.length - (j + 1))
          case measure => have hkk := AA.out.1; omega
          case rel => exact ⟨j + 1, rfl, by omega, by go_num, HT.out, hB1⟩
    · obtain rfl : j = l.length := by omega
      have hall : okLog l v = true := (okLog_iff _ _).2 ⟨h64', by have := AA.out.2.1; rwa [List.take_length] at this, (rises_iff _).2 fun i x y hx hy => AA.out.2.2 i x y (List.getElem?_eq_some_iff.1 hy).1 hx hy⟩
      have HN := Lib.hid hall
      clear hall
      go_wp2_with fail
      go_ret
      rw [HN.out]
      exact ⟨rfl, hB⟩

set_option maxHeartbeats 4000000 in
theorem rcheck15_any (r : RegS) (sl : SlcE) (w : World) (hl : LogAt w w.heap.size sl r.log) :
    Calls Try.prog 40 #[.agg (rgv r sl).toArray] w fun e w' => e = .returned (.bool (mayR r)) ∧ Below w.heap.size w w' := by
  obtain ⟨p, v, lg, k⟩ := r
  obtain ⟨A, n, c⟩ := sl
  obtain rfl : n = lg.length := hl.1
  have hc2 : lg.length ≤ 9223372036854775807 := Nat.le_trans hl.2.1 hl.2.2.1
  have HE := Lib.hid hl.2.2.2
  clear hl
  unfold rgv
  have hw := Below.refl w.heap.size w
  have hb0 : Below w.heap.size w (w.alloc (.cells #[.int .i64 p, .int .i64 v, .slice A lg.length c, .int .i64 k] 37)) := hw.alloc (Nat.le_refl _) _
  by_cases h1 : 0 ≤ v
  case neg =>
    have HN := Lib.hid (mayR_no (r := ⟨p, v, lg, k⟩) (fun h => h1 h.1.1))
    go_enter Try.func40, Try.ntmps40
    go_wp2_with fail
    go_ret
    rw [HN.out]
    exact ⟨rfl, hb0⟩
  by_cases h2 : v ≤ p
  case neg =>
    have HN := Lib.hid (mayR_no (r := ⟨p, v, lg, k⟩) (fun h => h2 h.1.2.1))
    go_enter Try.func40, Try.ntmps40
    go_wp2_with fail
    go_ret
    rw [HN.out]
    exact ⟨rfl, hb0⟩
  by_cases h3 : p ≤ 1048576
  case neg =>
    have HN := Lib.hid (mayR_no (r := ⟨p, v, lg, k⟩) (fun h => h3 h.1.2.2))
    go_enter Try.func40, Try.ntmps40
    go_wp2_with fail
    go_ret
    rw [HN.out]
    exact ⟨rfl, hb0⟩
  have HH := Lib.hid (And.intro hb0 (Blk.new w 37 [.int .i64 p, .int .i64 v, .slice A lg.length c, .int .i64 k]))
  clear hb0
  go_enter Try.func40, Try.ntmps40
  go_wp2_with fail
  refine (rlog_any lg A c v _ ((HE.out.below HH.out.1).more HH.out.1.size) hc2).mono ?_
  rintro e w1 ⟨rfl, hb⟩
  have hw1 := below_trans HH.out.1 hb HH.out.1.size
  have B1 := HH.out.2.keep hb
  clear hb HH
  cases hO : okLog lg v with
  | false =>
    have HN := Lib.hid (mayR_no (r := ⟨p, v, lg, k⟩) (fun h => by have := h.2.1; dsimp only at this; rw [hO] at this; cases this))
    clear hO
    go_wp2_with fail
    go_ret
    rw [HN.out]
    exact ⟨rfl, hw1⟩
  | true =>
    have c2 := B1.cell 2
    have c3 := B1.cell 3
    simp at c2 c3
    have HO := Lib.hid hO
    clear hO
    by_cases h4 : 0 ≤ k
    case neg =>
      have HN := Lib.hid (mayR_no (r := ⟨p, v, lg, k⟩) (fun h => h4 h.2.2.1))
      go_wp2_with fail
      go_ret
      rw [HN.out]
      exact ⟨rfl, hw1⟩
    by_cases h5 : k ≤ (lg.length : Int)
    case neg =>
      have HN := Lib.hid (mayR_no (r := ⟨p, v, lg, k⟩) (fun h => h5 h.2.2.2))
      have d5 : decide (k ≤ (lg.length : Int)) = false := decide_eq_false h5
      go_wp2_with fail
      go_ret
      rw [HN.out]
      exact ⟨rfl, hw1⟩
    have HN := Lib.hid ((mayR_iff ⟨p, v, lg, k⟩).2 ⟨⟨h1, h2, h3⟩, HO.out, h4, h5⟩)
    have d5 : decide (k ≤ (lg.length : Int)) = true := decide_eq_true h5
    go_wp2_with fail
    go_ret
    rw [HN.out]
    exact ⟨rfl, hw1⟩
end Go.Proofs.Ytdphfhenjndkkaa

set_option linter.unusedSimpArgs false
set_option linter.unusedVariables false
set_option maxRecDepth 100000
namespace Go.Proofs.Ytdphfhenjndkkaa
open Go Go.RowKit Go.Sq Go.Wd Go.Arch

/-- append to nil. -/
theorem copy_nil (l : List Ent) (A : Option Addr) (c : Nat) (W : World) (ha : Ents W W.heap.size A l) (hl : l.length ≤ 2000) :
    ∃ v' w', (Builtin.append_ #[35, 35] 35 #[.slice none 0 0, .slice A l.length c]).run Try.prog W = .ok v' w' ∧ Row w' W.heap.size v' l ∧ Below W.heap.size W w' := by
  obtain ⟨v1, w1, h1, h2, h3, _⟩ := Row.app (Row.nil W W.heap.size) A c ha (by simpa using hl) (Nat.le_refl _)
  exact ⟨v1, w1, h1, h2, below_own (Below.refl _ _) h3 (Row.nil W W.heap.size) (Nat.le_refl _)⟩

/-- What the document's Apply tells. -/
def DocP (r : RegS) (x : RecS) (w : World) (e : Ending) (w' : World) : Prop :=
  ∃ sl : SlcE, e = .returned (.tuple #[.agg (rgv (regR (applyR r x)).1 sl).toArray, .bool (regR (applyR r x)).2]) ∧ LogAt w' w'.heap.size sl (regR (applyR r x)).1.log ∧ Below w.heap.size w w'
theorem DocP.no {r : RegS} {x : RecS} {w w' : World} {e : Ending} (h : applyR r x = none) (he : e = .returned (.tuple #[.agg (rgv reg0 (none, 0, 0)).toArray, .bool false])) (hb : Below w.heap.size w w') : DocP r x w e w' := by
  refine ⟨(none, 0, 0), ?_, ?_, hb⟩
  · rw [h]; exact he
  · rw [h]; exact LogAt.nil
theorem DocP.yes {r a : RegS} {x : RecS} {w w' : World} {e : Ending} (h : applyR r x = some a) (sl : SlcE) (he : e = .returned (.tuple #[.agg (rgv a sl).toArray, .bool true])) (hl : LogAt w' w'.heap.size sl a.log) (hb : Below w.heap.size w w') : DocP r x w e w' := by
  refine ⟨sl, ?_, ?_, hb⟩
  · rw [h]; exact he
  · rw [h]; exact hl

set_option maxHeartbeats 8000000 in
theorem doc_2 (r : RegS) (sl : SlcE) (x : RecV) (w : World) (hm : mayR r = true) (k2 : x.kind = 2) (hl : LogAt w w.heap.size sl r.log) (hx : LogAt w w.heap.size x.es x.ents) (hx2 : x.ents.length ≤ 1000) :
    Calls Try.prog 73 #[.agg (rgv r sl).toArray, .agg (rcv x).toArray] w (DocP r x.s w) := by
  have m64 : r.log.length ≤ 64 := ((okLog_iff _ _).1 ((mayR_iff r).1 hm).2.1).1
  obtain ⟨As, ns, cs⟩ := sl
  obtain rfl : ns = r.log.length := hl.1
  have hz : Below w.heap.size w (((w.alloc (.cells (rgv r (As, r.log.length, cs)).toArray 37)).alloc (.cells (rcv x).toArray 53)).alloc (.cells (rgv reg0 (none, 0, 0)).toArray 37)) := (((Below.refl _ _).alloc (Nat.le_refl _) _).alloc (by simp) _).alloc (by simp; omega) _
  have BZ : Blk (((w.alloc (.cells (rgv r (As, r.log.length, cs)).toArray 37)).alloc (.cells (rcv x).toArray 53)).alloc (.cells (rgv reg0 (none, 0, 0)).toArray 37)) (w.heap.size + 1 + 1) 37 (rgv reg0 (none, 0, 0)) := Blk.newAt _ _ _ (by simp)
  have B0 : Blk (((w.alloc (.cells (rgv r (As, r.log.length, cs)).toArray 37)).alloc (.cells (rcv x).toArray 53)).alloc (.cells (rgv reg0 (none, 0, 0)).toArray 37)) w.heap.size 37 (rgv r (As, r.log.length, cs)) := ((Blk.new w _ _).alloc _).alloc _
  have B1 : Blk (((w.alloc (.cells (rgv r (As, r.log.length, cs)).toArray 37)).alloc (.cells (rcv x).toArray 53)).alloc (.cells (rgv reg0 (none, 0, 0)).toArray 37)) (w.heap.size + 1) 53 (rcv x) := (Blk.newAt _ _ _ (by simp)).alloc _
  have hc := rcheck15_any r (As, r.log.length, cs) _ (hl.keep hz)
  rw [hm] at hc
  have HM := Lib.hid hm
  have HLX := Lib.hid (And.intro hl hx)
  have HH := Lib.hid (And.intro hz (And.intro BZ (And.intro B0 (And.intro B1 hc))))
  clear hz BZ B0 B1 hc hl hm hx
  go_enter Try.func73, Try.ntmps73
  go_wp2_with ((with_reducible refine at_list ?_); refine wpList_load_blk rfl 37 _ rfl _ rfl _ _ _ (HH.out.2.2.1) Try.underlying37 rfl rg_info ?_)
  refine HH.out.2.2.2.2.mono ?_
  rintro e w1 ⟨rfl, hb⟩
  have hw1 := below_trans HH.out.1 hb HH.out.1.size
  have hz1 := hw1.size
  have CZ := HH.out.2.1.keep hb
  have C0 := HH.out.2.2.1.keep hb
  have C1 := HH.out.2.2.2.1.keep hb
  have lZ := CZ.lt
  have HL1 := Lib.hid (HLX.out.1.keep hw1)
  clear HH hb
  go_wp2_with fail
  refine wp_region_t (.quiet 0 (.quiet 1 (.quiet 2 (.quiet 3 (.quiet 4 (.quiet 5 (.quiet 7 (.quiet 8 (.two 6 10 (.quiet 9 (.one 10 (.one 11 .done))) (.one 6 (.quiet 9 (.one 11 .done)))))))))))) (fun w' => Below w1.heap.size w1 w' ∧ Blk w' w.heap.size 37 (rgv r (As, r.log.length, cs))) (by kernel_rfl) (by kernel_rfl) (by kernel_rfl) (by kernel_rfl) (⟨(Below.refl _ _).drew, C0.drew⟩) rfl ?_
  intro KP RP TP hKP hTP hTP'
  simp only [Sch.fill, nth]
  apply merge2 (Inv := fun g s w' => Below w1.heap.size w1 w' ∧ w1.heap.size ≤ g ∧ Blk w' g 37 (rgv r s) ∧ LogAt w' w'.heap.size s r.log) (K := KP)
  · intro HK
    have hQ : Below w1.heap.size w1 w1.drew := (Below.refl _ _).drew
    generalize w1.drew = wc at hQ ⊢
    go_wp2_with (first
      | (apply SeqT.skip; rfl; simp only [Act.put, List.setIfInBounds_toArray, List.set_cons_zero, List.set_cons_succ])
      | (apply SeqT.pure; rfl; (intro w9 hw9; have hw9 := hTP _ hw9; (have z0 := hw9.2.cell 0; have z1 := hw9.2.cell 1; have z2 := hw9.2.cell 2; have z3 := hw9.2.cell 3; simp [rgv] at z0 z1 z2 z3); go_simp; with_reducible rfl); simp only [Act.put, List.setIfInBounds_toArray, List.set_cons_zero, List.set_cons_succ]))
    apply SeqT.two
    · apply EffT.go
      · rfl
      intro KE hKE
      obtain ⟨v, w4, hrun, hRv, hb⟩ := copy_nil r.log As cs wc (HL1.out.keep hQ).2.2.2 (by omega)
      refine oper_app (by rfl) (by rfl) (by rfl) hrun ?_
      obtain ⟨s, rfl, hs⟩ := hRv.log
      have hw4 := below_trans hQ hb hQ.size
      refine hKE _ _ (hTP' _ ⟨hw4, C0.keep hw4⟩) ?_
      clear hKE KE hrun hRv
      go_wp2_with (first
        | (apply SeqT.skip; rfl; simp only [Act.put, List.setIfInBounds_toArray, List.set_cons_zero, List.set_cons_succ])
        | (apply SeqT.pure; rfl; (intro w9 hw9; have hw9 := hTP _ hw9; (have z0 := hw9.2.cell 0; have z1 := hw9.2.cell 1; have z2 := hw9.2.cell 2; have z3 := hw9.2.cell 3; simp [rgv] at z0 z1 z2 z3); go_simp; with_reducible rfl); simp only [Act.put, List.setIfInBounds_toArray, List.set_cons_zero, List.set_cons_succ]))
      apply SeqT.one
      apply EffT.go
      · rfl
      intro KE hKE
      go_wp2_with fail
      refine eff_abs hKE (fun W' => Below w4.heap.size w4 W' ∧ Blk W' w4.heap.size 37 (rgv reg0 (none, 0, 0))) ⟨(Below.refl _ _).alloc (Nat.le_refl _) _, Blk.new w4 _ _⟩ (fun W' h => hTP' _ ⟨below_trans hw4 h.1 hw4.size, C0.keep (below_trans hw4 h.1 hw4.size)⟩) ?_
      rintro w5 ⟨hb5, Z5⟩
      have hw5 := below_trans hw4 hb5 hw4.size
      have hs5 := hs.keep hb5
      have hgz := hw4.size
      clear hKE KE hs hb5
      generalize w4.heap.size = gz at Z5 hgz ⊢
      apply SeqT.one
      apply EffT.go
      · rfl
      intro KE hKE
      refine wp_store_own 37 _ _ rfl _ (rgv r s) rfl rfl _ _ Z5 rg_info rfl (rgv_one _ _) ?_
      intro w6 B6 g6
      have hw6 := hw5.trans (below_grown g6 hgz hw5.size)
      have hs6 := hs5.stored Z5 (by simp [rgv]) g6
      refine hKE _ _ (hTP' _ ⟨hw6, C0.keep hw6⟩) ?_
      clear hKE KE
      go_wp2_with (first
        | (apply SeqT.skip; rfl; simp only [Act.put, List.setIfInBounds_toArray, List.set_cons_zero, List.set_cons_succ])
        | (apply SeqT.pure; rfl; (intro w9 hw9; have hw9 := hTP _ hw9; (have z0 := hw9.2.cell 0; have z1 := hw9.2.cell 1; have z2 := hw9.2.cell 2; have z3 := hw9.2.cell 3; simp [rgv] at z0 z1 z2 z3); go_simp; with_reducible rfl); simp only [Act.put, List.setIfInBounds_toArray, List.set_cons_zero, List.set_cons_succ]))
      apply SeqT.done
      exact HK gz s _ ⟨hw6, hgz, B6, hs6⟩
    · apply EffT.go
      · rfl
      intro KE hKE
      go_wp2_with fail
      refine eff_abs hKE (fun W' => Below wc.heap.size wc W' ∧ Blk W' wc.heap.size 37 (rgv reg0 (none, 0, 0))) ⟨(Below.refl _ _).alloc (Nat.le_refl _) _, Blk.new wc _ _⟩ (fun W' h => hTP' _ ⟨below_trans hQ h.1 hQ.size, C0.keep (below_trans hQ h.1 hQ.size)⟩) ?_
      rintro w5 ⟨hb5, Z5⟩
      have hw5 := below_trans hQ hb5 hQ.size
      have hgz := hQ.size
      clear hKE KE hb5
      generalize wc.heap.size = gz at Z5 hgz ⊢
      go_wp2_with (first
        | (apply SeqT.skip; rfl; simp only [Act.put, List.setIfInBounds_toArray, List.set_cons_zero, List.set_cons_succ])
        | (apply SeqT.pure; rfl; (intro w9 hw9; have hw9 := hTP _ hw9; (have z0 := hw9.2.cell 0; have z1 := hw9.2.cell 1; have z2 := hw9.2.cell 2; have z3 := hw9.2.cell 3; simp [rgv] at z0 z1 z2 z3); go_simp; with_reducible rfl); simp only [Act.put, List.setIfInBounds_toArray, List.set_cons_zero, List.set_cons_succ]))
      apply SeqT.one
      apply EffT.go
      · rfl
      intro KE hKE
      obtain ⟨v, w4, hrun, hRv, hb⟩ := copy_nil r.log As cs w5 (HL1.out.keep hw5).2.2.2 (by omega)
      refine oper_app (by rfl) (by rfl) (by rfl) hrun ?_
      obtain ⟨s, rfl, hs⟩ := hRv.log
      have hw4 := below_trans hw5 hb hw5.size
      have Z4 := Z5.keep hb
      refine hKE _ _ (hTP' _ ⟨hw4, C0.keep hw4⟩) ?_
      clear hKE KE hrun hRv
      go_wp2_with (first
        | (apply SeqT.skip; rfl; simp only [Act.put, List.setIfInBounds_toArray, List.set_cons_zero, List.set_cons_succ])
        | (apply SeqT.pure; rfl; (intro w9 hw9; have hw9 := hTP _ hw9; (have z0 := hw9.2.cell 0; have z1 := hw9.2.cell 1; have z2 := hw9.2.cell 2; have z3 := hw9.2.cell 3; simp [rgv] at z0 z1 z2 z3); go_simp; with_reducible rfl); simp only [Act.put, List.setIfInBounds_toArray, List.set_cons_zero, List.set_cons_succ]))
      apply SeqT.one
      apply EffT.go
      · rfl
      intro KE hKE
      refine wp_store_own 37 _ _ rfl _ (rgv r s) rfl rfl _ _ Z4 rg_info rfl (rgv_one _ _) ?_
      intro w6 B6 g6
      have hw6 := hw4.trans (below_grown g6 hgz hw4.size)
      have hs6 := hs.stored Z4 (by simp [rgv]) g6
      refine hKE _ _ (hTP' _ ⟨hw6, C0.keep hw6⟩) ?_
      clear hKE KE
      go_wp2_with (first
        | (apply SeqT.skip; rfl; simp only [Act.put, List.setIfInBounds_toArray, List.set_cons_zero, List.set_cons_succ])
        | (apply SeqT.pure; rfl; (intro w9 hw9; have hw9 := hTP _ hw9; (have z0 := hw9.2.cell 0; have z1 := hw9.2.cell 1; have z2 := hw9.2.cell 2; have z3 := hw9.2.cell 3; simp [rgv] at z0 z1 z2 z3); go_simp; with_reducible rfl); simp only [Act.put, List.setIfInBounds_toArray, List.set_cons_zero, List.set_cons_succ]))
      apply SeqT.done
      exact HK gz s _ ⟨hw6, hgz, B6, hs6⟩
  intro g s w3 ⟨hb, hge, G3, hs⟩
  refine hKP _ _ (hTP' _ ⟨hb, C0.keep hb⟩) ?_
  clear hKP hTP hTP'
  have hw3 := below_trans hw1 hb hz1
  have E0 := C0.keep hb
  have E1 := C1.keep hb
  have E2 := CZ.keep hb
  have HS := Lib.hid hs
  have HL3 := Lib.hid (And.intro (HLX.out.1.keep hw3) (HLX.out.2.keep hw3))
  have hz3 := hw3.size
  have l3 := E2.lt
  have lG := G3.lt
  have hgg : w.heap.size + 1 + 1 < g := by omega
  clear hb C0 C1 CZ HL1 hw1 hz1 lZ hge hs
  try clear w1
  have lE1 := E1.lt
  have lE0 := E0.lt
  have x0 := E1.cell 0
  have x2 := E1.cell 2
  have x5 := E1.cell 5
  have r0 := E0.cell 0
  have r2 := E0.cell 2
  have r3 := E0.cell 3
  have fr := G3.frozen
  have g0 := G3.cell 0
  have g3 := G3.cell 3
  simp [rcv] at x0 x2 x5
  simp [rgv] at r0 r2 r3 g0 g3
  rw [k2] at x0
  have hA : applyR r x.s = viewR r x.s := apply_2 (x := x.s) HM.out k2
  have HA := Lib.hid hA
  have hes : x.es.2.1 = x.ents.length := HL3.out.2.1
  have HLE : Hid (∀ W', Below w3.heap.size w3 W' → LogAt W' W'.heap.size (x.es.1, x.ents.length, x.es.2.2) x.ents) := Lib.hid (fun W' h => by have h2 := HL3.out.2.keep h; exact ⟨rfl, h2.2.1, h2.2.2.1, h2.2.2.2⟩)
  have kcs : r.log.length ≤ cs := HL3.out.1.2.1
  have kcs2 : cs ≤ 9223372036854775807 := HL3.out.1.2.2.1
  have hcom := ((mayR_iff r).1 HM.out).2.2
  obtain ⟨C, hC⟩ := Int.eq_ofNat_of_zero_le hcom.1
  have hCle : C ≤ r.log.length := by have := hcom.2; omega
  clear hA k2 x5 g0 g3 fr hcom
  have r1 := E0.cell 1
  have x4 := E1.cell 4
  simp [rcv] at x4
  simp [rgv] at r1
  rw [hC] at r3
  have HC := Lib.hid hC
  clear hC
  obtain ⟨F, hF⟩ : ∃ F, F = fromR r x.s := ⟨_, rfl⟩
  by_cases he : x.epoch = r.view
  case' pos =>
    have heb : (x.epoch == r.view) = true := by rw [beq_iff_eq]; exact he
    have hF2 : F = r.log.length := by rw [hF]; exact if_pos he
    have hVF : Value.int .i64 (r.log.length : Int) = Value.int .i64 (F : Int) := by rw [hF2]
  case' neg =>
    have heb : (x.epoch == r.view) = false := by rw [beq_eq_false_iff_ne]; exact he
    have hF2 : F = 0 := by rw [hF]; exact if_neg he
    have hVF : Value.int .i64 0 = Value.int .i64 (F : Int) := by rw [hF2]; rfl
  all_goals
    have HVF := Lib.hid hVF
    have hFle : F ≤ r.log.length := by omega
    have HF := Lib.hid hF
    clear hVF hF hF2 he
    go_wp2_with ((with_reducible refine at_list ?_); (with_reducible refine cut_at 53 rfl ?_))
    refine Cut.go ?_
    rw [HVF.out]
    clear HVF heb r1
    by_cases hc : 1 ≤ x.epoch ∧ r.prom ≤ x.epoch ∧ x.epoch ≤ 1048576 ∧ x.from_ = (F : Int)
    case neg =>
      have hN : applyR r x.s = none := by rw [HA.out]; unfold viewR; rw [if_neg]; rintro ⟨h, _⟩; apply hc; rw [← HF.out] at h; exact h
      have HN := Lib.hid hN
      have hcc : x.epoch < 1 ∨ (¬ x.epoch < 1 ∧ x.epoch < r.prom) ∨ (¬ x.epoch < 1 ∧ ¬ x.epoch < r.prom ∧ (1048576 : Int) < x.epoch) ∨ (¬ x.epoch < 1 ∧ ¬ x.epoch < r.prom ∧ ¬ (1048576 : Int) < x.epoch ∧ x.from_ ≠ (F : Int)) := by omega
      clear hN hc
      rcases hcc with c1 | ⟨c1, c2⟩ | ⟨c1, c2, c3⟩ | ⟨c1, c2, c3, c4⟩
      case' inr.inr.inr => have c4b : (x.from_ != (F : Int)) = true := by rw [bne_iff_ne]; exact c4
      all_goals
        go_wp2_with ((with_reducible refine at_list ?_); (refine wpList_store_own rfl 37 _ _ rfl _ (rgv reg0 (none, 0, 0)) rfl rfl _ _ (E2) rg_info rfl (rgv_one _ _) ?_; intro w8 B8 g8))
        have hw8 := hw3.trans (below_grown g8 (by omega) hz3)
        apply ret_of
        · exact results_blk_tmp rfl _ _ _ _ _ _ rfl (B8) Try.underlying37 rfl rg_info _ rfl
        · exact ⟨rfl, DocP.no HN.out rfl hw8⟩
    case pos =>
      have HCC := Lib.hid hc
      obtain ⟨c1', c2', c3', c4'⟩ := hc
      have c1 : ¬ x.epoch < 1 := by omega
      have c2 : ¬ x.epoch < r.prom := by omega
      have c3 : ¬ (1048576 : Int) < x.epoch := by omega
      have c4 : (x.from_ != (F : Int)) = false := by rw [bne_eq_false_iff_eq]; exact c4'
      have cF : F ≤ cs := by omega
      have cF2 : (F : Int) ≤ (cs : Int) := by omega
      clear c1' c2' c3' c4'
      go_wp2_with fail
      clear c1 c2 c3 c4 x0 x2 x4 r0 r2 r3
      refine wp_region_p ([(0, true), (1, true), (2, true), (3, true), (5, true), (6, true), (4, false), (7, false), (8, true)]) (fun w' => Blk w' w.heap.size 37 (rgv r (As, r.log.length, cs)) ∧ Blk w' (w.heap.size + 1) 53 (rcv x)) (by kernel_rfl) rfl (by kernel_rfl) (by kernel_rfl) (⟨E0.drew, E1.drew⟩) rfl ?_
      intro KP RP TP hKP hTP hTP'
      simp only [pick, nth]
      go_wp2_with (first
        | (apply SeqP.skip; rfl; simp only [Act.put, List.setIfInBounds_toArray, List.set_cons_zero, List.set_cons_succ])
        | (apply SeqP.call; rfl; rfl; (intro w2 hw; have hw := hTP _ hw; ((have z2 := hw.1.cell 2; have z6 := hw.2.cell 6; simp [rcv] at z6; simp [rgv] at z2; rw [hes] at z6)); go_simp; exact ⟨rfl, rfl⟩); (intro w2 hw; have hw := hTP _ hw; ((have z2 := hw.1.cell 2; have z6 := hw.2.cell 6; simp [rcv] at z6; simp [rgv] at z2; rw [hes] at z6)); (first | fail)); simp only [Act.put, List.setIfInBounds_toArray, List.set_cons_zero, List.set_cons_succ])
        | (apply SeqP.pure; rfl; (intro w2 hw; have hw := hTP _ hw; ((have z2 := hw.1.cell 2; have z6 := hw.2.cell 6; simp [rcv] at z6; simp [rgv] at z2; rw [hes] at z6)); go_simp; with_reducible rfl); simp only [Act.put, List.setIfInBounds_toArray, List.set_cons_zero, List.set_cons_succ])
        | (apply SeqP.split; rfl; rfl; all_goals (intro hc; simp only [hc]; try simp only [beq_iff_eq, decide_eq_true_eq, beq_eq_false_iff_ne, decide_eq_false_iff_not, bne_iff_ne, ne_eq, Bool.not_eq_true', Bool.not_eq_false', Int.not_le, Int.not_lt, bne_eq_false_iff_eq, Bool.or_eq_true, Bool.and_eq_true, Bool.or_eq_false_iff] at hc)))
      apply SeqP.eff
      · rfl
      intro KE hKE
      have hQ : Below w3.heap.size w3 w3.drew := (Below.refl _ _).drew
      have hTl : (r.log.take F).length = F := by rw [List.length_take, Nat.min_eq_left hFle]
      obtain ⟨v, w4, hrun, hR4, hb⟩ := copy_nil (r.log.take F) As cs w3.drew ((HL3.out.1.keep hQ).2.2.2.take F) (by omega)
      rw [hTl] at hrun
      refine oper_app (by rfl) (by rfl) (by rfl) hrun ?_
      have hQ4 := below_trans hQ hb hQ.size
      refine hKE _ _ (hTP' _ ⟨E0.keep hQ4, E1.keep hQ4⟩) ?_
      clear hKE KE hrun hb
      go_wp2_with (first
        | (apply SeqP.skip; rfl; simp only [Act.put, List.setIfInBounds_toArray, List.set_cons_zero, List.set_cons_succ])
        | (apply SeqP.call; rfl; rfl; (intro w2 hw; have hw := hTP _ hw; ((have z2 := hw.1.cell 2; have z6 := hw.2.cell 6; simp [rcv] at z6; simp [rgv] at z2; rw [hes] at z6)); go_simp; exact ⟨rfl, rfl⟩); (intro w2 hw; have hw := hTP _ hw; ((have z2 := hw.1.cell 2; have z6 := hw.2.cell 6; simp [rcv] at z6; simp [rgv] at z2; rw [hes] at z6)); (first | fail)); simp only [Act.put, List.setIfInBounds_toArray, List.set_cons_zero, List.set_cons_succ])
        | (apply SeqP.pure; rfl; (intro w2 hw; have hw := hTP _ hw; ((have z2 := hw.1.cell 2; have z6 := hw.2.cell 6; simp [rcv] at z6; simp [rgv] at z2; rw [hes] at z6)); go_simp; with_reducible rfl); simp only [Act.put, List.setIfInBounds_toArray, List.set_cons_zero, List.set_cons_succ])
        | (apply SeqP.split; rfl; rfl; all_goals (intro hc; simp only [hc]; try simp only [beq_iff_eq, decide_eq_true_eq, beq_eq_false_iff_ne, decide_eq_false_iff_not, bne_iff_ne, ne_eq, Bool.not_eq_true', Bool.not_eq_false', Int.not_le, Int.not_lt, bne_eq_false_iff_eq, Bool.or_eq_true, Bool.and_eq_true, Bool.or_eq_false_iff] at hc)))
      apply SeqP.eff
      · rfl
      intro KE hKE
      obtain ⟨v2, w5, hrun, hR5, hg5, _⟩ := Row.app hR4 x.es.1 x.es.2.2 (HLE.out _ hQ4).2.2.2 (by omega) hQ4.size
      have hQ5 := below_own hQ4 hg5 hR4 hQ4.size
      refine oper_app (by rfl) (by rfl) (by rfl) hrun ?_
      refine hKE _ _ (hTP' _ ⟨E0.keep hQ5, E1.keep hQ5⟩) ?_
      clear hKE KE hrun hg5 hR4 hTl hQ4 hQ
      go_wp2_with (first
        | (apply SeqP.skip; rfl; simp only [Act.put, List.setIfInBounds_toArray, List.set_cons_zero, List.set_cons_succ])
        | (apply SeqP.call; rfl; rfl; (intro w2 hw; have hw := hTP _ hw; (skip); go_simp; exact ⟨rfl, rfl⟩); (intro w2 hw; have hw := hTP _ hw; (skip); (first | fail)); simp only [Act.put, List.setIfInBounds_toArray, List.set_cons_zero, List.set_cons_succ])
        | (apply SeqP.pure; rfl; (intro w2 hw; have hw := hTP _ hw; (skip); go_simp; with_reducible rfl); simp only [Act.put, List.setIfInBounds_toArray, List.set_cons_zero, List.set_cons_succ])
        | (apply SeqP.split; rfl; rfl; all_goals (intro hc; simp only [hc]; try simp only [beq_iff_eq, decide_eq_true_eq, beq_eq_false_iff_ne, decide_eq_false_iff_not, bne_iff_ne, ne_eq, Bool.not_eq_true', Bool.not_eq_false', Int.not_le, Int.not_lt, bne_eq_false_iff_eq, Bool.or_eq_true, Bool.and_eq_true, Bool.or_eq_false_iff] at hc)))
      apply SeqP.nil
      refine hKP _ _ (hTP' _ (⟨E0.keep hQ5, E1.keep hQ5⟩)) ?_
      clear hKP hTP hTP'
      have hLl : r.log.take F ++ x.ents = logR r x.s := by unfold logR; rw [← HF.out]; rfl
      have hL5 : (logR r x.s).length ≤ 2000 := by rw [← hLl, List.length_append, List.length_take]; omega
      rw [hLl] at hR5
      obtain ⟨Al, cl, rfl, kl1, kl2, EL⟩ := hR5.form
      obtain ⟨L, hL⟩ : ∃ L, L = logR r x.s := ⟨_, rfl⟩
      rw [← hL] at hL5 kl1 EL ⊢
      have HLL := Lib.hid hL
      have P0 := E0.keep hQ5
      have P1 := E1.keep hQ5
      have P2 := E2.keep hQ5
      have PG := G3.keep hQ5
      have S5 := Lib.hid (And.intro (HL3.out.1.keep hQ5) (And.intro kl1 (And.intro kl2 EL)))
      have hw5 := below_trans hw3 hQ5 hz3
      have hz5 := hw5.size
      clear hL hLl hR5 EL hQ5 E0 E1 E2 G3 hw3 HS HL3 HLE hz3 l3 lG lE1 lE0 cF cF2 hFle hes
      try clear w3
      have x2 := P1.cell 2
      have r3 := P0.cell 3
      simp [rcv] at x2
      simp [rgv] at r3
      rw [HC.out] at r3
      have lP1 := P1.lt
      have lP0 := P0.lt
      go_wp2_with fail
      refine (rlog_any L Al cl x.epoch _ S5.out.2.2.2 (by omega)).mono ?_
      rintro e w6 ⟨rfl, hb⟩
      have hw6 := below_trans hw5 hb hz5
      have Q0 := P0.keep hb
      have Q1 := P1.keep hb
      have Q2 := P2.keep hb
      have QG := PG.keep hb
      have S6 := Lib.hid (And.intro (S5.out.1.keep hb) (And.intro S5.out.2.1 (And.intro S5.out.2.2.1 ((S5.out.2.2.2.below hb).more hb.size))))
      have hz6 := hw6.size
      clear hb P0 P1 P2 PG S5 hw5 hz5 x2 r3 lP1 lP0
      try clear w5
      have x2 := Q1.cell 2
      have r3 := Q0.cell 3
      simp [rcv] at x2
      simp [rgv] at r3
      rw [HC.out] at r3
      have lQ1 := Q1.lt
      have lQ0 := Q0.lt
      have hview : ∀ b : Bool, b = false → (okLog L x.epoch = false ∨ ¬ r.log.take C <+: L) → applyR r x.s = none := by
        intro b hb h
        rw [HA.out]
        unfold viewR
        rw [if_neg]
        rintro ⟨_, h1, h2⟩
        rw [← HLL.out] at h1 h2
        rcases h with h | h
        · have h1' : okLog L x.epoch = true := h1
          rw [h] at h1'; cases h1'
        · apply h; rw [HC.out] at h2; exact h2
      have HV := Lib.hid hview
      clear hview
      cases hok : okLog L x.epoch with
      | false =>
        have HN := Lib.hid (HV.out false rfl (.inl hok))
        clear hok
        go_wp2_with ((with_reducible refine at_list ?_); (refine wpList_store_own rfl 37 _ _ rfl _ (rgv reg0 (none, 0, 0)) rfl rfl _ _ (Q2) rg_info rfl (rgv_one _ _) ?_; intro w8 B8 g8))
        have hw8 := hw6.trans (below_grown g8 (by omega) hz6)
        apply ret_of
        · exact results_blk_tmp rfl _ _ _ _ _ _ rfl (B8) Try.underlying37 rfl rg_info _ rfl
        · exact ⟨rfl, DocP.no HN.out rfl hw8⟩
      | true =>
      have HOK := Lib.hid hok
      clear hok
      by_cases hlc : L.length < C
      case pos =>
        have hlc2 : (L.length : Int) < (C : Int) := by omega
        have HN := Lib.hid (HV.out false rfl (.inr (fun h => by have := h.length_le; rw [List.length_take] at this; omega)))
        clear hlc
        go_wp2_with ((with_reducible refine at_list ?_); (refine wpList_store_own rfl 37 _ _ rfl _ (rgv reg0 (none, 0, 0)) rfl rfl _ _ (Q2) rg_info rfl (rgv_one _ _) ?_; intro w8 B8 g8))
        have hw8 := hw6.trans (below_grown g8 (by omega) hz6)
        apply ret_of
        · exact results_blk_tmp rfl _ _ _ _ _ _ rfl (B8) Try.underlying37 rfl rg_info _ rfl
        · exact ⟨rfl, DocP.no HN.out rfl hw8⟩
      have hlc2 : ¬ (L.length : Int) < (C : Int) := by omega
      have HE2 := Lib.hid (And.intro S6.out.2.2.2 S6.out.1.2.2.2)
      go_wp2_with fail
      go_loopg [9] C (fun k i wr => ∃ j : Nat, k = C - j ∧ j ≤ C ∧ i = .int .i64 j ∧ Below w6.heap.size w6 wr ∧ L.take j = r.log.take j)
      case atStart => exact ⟨0, rfl, by omega, rfl, Below.refl _ _, by simp⟩
      case round =>
        obtain ⟨j, hk, hj, rfl, hwr, ht⟩ := hrel
        have AA : Aside (gk = C - j ∧ L.take j = r.log.take j) := ⟨hk, ht⟩
        clear hk ht x2 r3
        have r3 := (Q0.keep hwr).cell 3
        simp [rgv] at r3
        rw [HC.out] at r3
        by_cases hlt : j < C
        · have hjl : j < L.length := by omega
          have hjm : j < r.log.length := by omega
          obtain ⟨b1, o1, ex, rfl, hx, FA⟩ := HE2.out.1.at_ hjl
          obtain ⟨b2, o2, ey, rfl, hy, FB⟩ := HE2.out.2.at_ hjm
          have Q0' := Q0.keep hwr
          have gk1 : j < cs := by omega
          go_wp2_with fail
          refine wp_region_p ([(0, true), (1, true), (2, true), (3, true), (4, true), (5, true), (6, true), (7, true), (8, true), (9, true)]) (fun w' => Below w6.heap.size w6 w') (by kernel_rfl) rfl (by kernel_rfl) (by kernel_rfl) (hwr.drew) rfl ?_
          intro KP RP TP hKP hTP hTP'
          simp only [pick, nth]
          go_wp2_with (first
            | (apply SeqP.skip; rfl; simp only [Act.put, List.setIfInBounds_toArray, List.set_cons_zero, List.set_cons_succ])
            | (apply SeqP.aggbin; (with_reducible rfl); (with_reducible exact Try.eqGuardType64); rfl; rfl; rfl; (exact (fun w => neq_ent w ex ey)); simp only [Act.put, List.setIfInBounds_toArray, List.set_cons_zero, List.set_cons_succ])
            | (apply SeqP.call; rfl; rfl; (intro w2 hw; have hw := hTP _ hw; ((obtain ⟨p0, p1, p2, p3, p4, p5⟩ := FA _ hw; obtain ⟨q0, q1, q2, q3, q4, q5⟩ := FB _ hw; have z2 := (Q0.keep hw).cell 2; simp [rgv] at z2)); go_simp; exact ⟨rfl, rfl⟩); (intro w2 hw; have hw := hTP _ hw; ((obtain ⟨p0, p1, p2, p3, p4, p5⟩ := FA _ hw; obtain ⟨q0, q1, q2, q3, q4, q5⟩ := FB _ hw; have z2 := (Q0.keep hw).cell 2; simp [rgv] at z2)); (first | fail)); simp only [Act.put, List.setIfInBounds_toArray, List.set_cons_zero, List.set_cons_succ])
            | (apply SeqP.pure; rfl; (intro w2 hw; have hw := hTP _ hw; ((obtain ⟨p0, p1, p2, p3, p4, p5⟩ := FA _ hw; obtain ⟨q0, q1, q2, q3, q4, q5⟩ := FB _ hw; have z2 := (Q0.keep hw).cell 2; simp [rgv] at z2)); go_simp; with_reducible rfl); simp only [Act.put, List.setIfInBounds_toArray, List.set_cons_zero, List.set_cons_succ])
            | (apply SeqP.split; rfl; rfl; all_goals (intro hc; simp only [hc]; try simp only [beq_iff_eq, decide_eq_true_eq, beq_eq_false_iff_ne, decide_eq_false_iff_not, bne_iff_ne, ne_eq, Bool.not_eq_true', Bool.not_eq_false', Int.not_le, Int.not_lt, bne_eq_false_iff_eq, Bool.or_eq_true, Bool.and_eq_true, Bool.or_eq_false_iff] at hc)))
          apply SeqP.nil
          refine hKP _ _ (hTP' _ hwr.drew) ?_
          clear hKP hTP hTP' FA FB
          have hw7 := below_trans hw6 hwr.drew hz6
          have U2 := Q2.keep hwr.drew
          have lU := U2.lt
          by_cases hxy : ex = ey
          · have hxy2 : ¬ ex ≠ ey := fun h => h hxy
            go_wp2_with fail
            go_roundg (C - (j + 1))
            case measure => have hkk := AA.out.1; omega
            case rel =>
              subst hxy
              exact ⟨j + 1, rfl, by omega, by go_num, hwr.drew, take_more AA.out.2 hx.out hy.out⟩
          · have HN := Lib.hid (HV.out false rfl (.inr (fun h => by
              have h2 := List.prefix_iff_eq_take.1 h
              rw [List.length_take, Nat.min_eq_left hCle] at h2
              have h3 : (r.log.take C)[j]? = (L.take C)[j]? := by rw [h2]
              rw [List.getElem?_take_of_lt hlt, List.getElem?_take_of_lt hlt, hx.out, hy.out] at h3
              exact hxy (Option.some.inj h3).symm)))
            have hxy2 : ex ≠ ey := hxy
            go_wp2_with ((with_reducible refine at_list ?_); (refine wpList_store_own rfl 37 _ _ rfl _ (rgv reg0 (none, 0, 0)) rfl rfl _ _ (U2) rg_info rfl (rgv_one _ _) ?_; intro w8 B8 g8))
            have hw8 := hw7.trans (below_grown g8 (by omega) hw7.size)
            apply ret_of
            · exact results_blk_tmp rfl _ _ _ _ _ _ rfl (B8) Try.underlying37 rfl rg_info _ rfl
            · exact ⟨rfl, DocP.no HN.out rfl hw8⟩
        · obtain rfl : j = C := by omega
          have hpre : r.log.take j <+: L := by
            have h := AA.out.2
            rw [← h]
            exact List.take_prefix _ _
          have hY : applyR r x.s = some ⟨x.epoch, x.epoch, L, r.com⟩ := by
            rw [HA.out]
            unfold viewR
            rw [if_pos]
            · rw [HLL.out]; rfl
            · obtain ⟨h1, h2, h3, h4⟩ := HCC.out
              refine ⟨⟨h1, h2, h3, by rw [← HF.out]; exact h4⟩, by rw [← HLL.out]; exact HOK.out, ?_⟩
              rw [← HLL.out, HC.out]
              exact hpre
          have HY := Lib.hid hY
          clear hY hpre HV
          have U0 := Q0.keep hwr
          have U1 := Q1.keep hwr
          have U2 := Q2.keep hwr
          have UG := QG.keep hwr
          have SL := Lib.hid (show LogAt wr wr.heap.size (Al, L.length, cl) L from ⟨rfl, S6.out.2.1, S6.out.2.2.1, (S6.out.2.2.2.below hwr).more hwr.size⟩)
          have hw7 := below_trans hw6 hwr hz6
          have hz7 := hw7.size
          go_wp2_with fail
          clear Q0 Q1 Q2 QG S6 HE2 hw6 hwr hz6 lQ0 lQ1
          have ne : ∀ m, m ≠ g → some m ≠ some g := fun m h e => h (Option.some.inj e)
          have nz := ne (w.heap.size + 1) (by omega)
          refine wp_region_p ([(0, true), (1, true), (2, true), (3, true), (4, true), (5, true), (6, false), (7, true), (8, false), (9, true), (10, false)]) (fun w' => Blk w' (w.heap.size + 1) 53 (rcv x)) (by kernel_rfl) rfl (by kernel_rfl) (by kernel_rfl) (U1.drew) rfl ?_
          intro KP RP TP hKP hTP hTP'
          simp only [pick, nth]
          go_wp2_with (first
            | (apply SeqP.skip; rfl; simp only [Act.put, List.setIfInBounds_toArray, List.set_cons_zero, List.set_cons_succ])
            | (apply SeqP.call; rfl; rfl; (intro w2 hw; have hw := hTP _ hw; ((have z2 := hw.cell 2; simp [rcv] at z2)); go_simp; exact ⟨rfl, rfl⟩); (intro w2 hw; have hw := hTP _ hw; ((have z2 := hw.cell 2; simp [rcv] at z2)); (first | fail)); simp only [Act.put, List.setIfInBounds_toArray, List.set_cons_zero, List.set_cons_succ])
            | (apply SeqP.pure; rfl; (intro w2 hw; have hw := hTP _ hw; ((have z2 := hw.cell 2; simp [rcv] at z2)); go_simp; with_reducible rfl); simp only [Act.put, List.setIfInBounds_toArray, List.set_cons_zero, List.set_cons_succ])
            | (apply SeqP.split; rfl; rfl; all_goals (intro hc; simp only [hc]; try simp only [beq_iff_eq, decide_eq_true_eq, beq_eq_false_iff_ne, decide_eq_false_iff_not, bne_iff_ne, ne_eq, Bool.not_eq_true', Bool.not_eq_false', Int.not_le, Int.not_lt, bne_eq_false_iff_eq, Bool.or_eq_true, Bool.and_eq_true, Bool.or_eq_false_iff] at hc)))
          have J0 := U0.drew
          have J1 := U1.drew
          have J2 := U2.drew
          have JG := UG.drew
          have SD := SL.out.keep (Below.refl _ _).drew
          have hwd := hw7.drew
          generalize wr.drew = wa at J0 J1 J2 JG SD hwd ⊢
          clear U0 U1 U2 UG SL hw7 hz7
          try clear wr
          apply SeqP.eff
          · rfl
          intro KE hKE
          have fr := JG.frozen
          have y0 := JG.cell 0
          have y1 := JG.cell 1
          have y2 := JG.cell 2
          have lG := JG.lt
          simp [rgv] at y0 y1 y2
          go_wp2_with fail
          refine eff_abs hKE (fun W' => wa.grownBy W' (some g) ∧ Blk W' g 37 (rgv ⟨x.epoch, r.view, r.log, r.com⟩ s)) ⟨by (repeat (first | with_reducible apply only_drew | with_reducible refine only_setCell ?_ (by first | exact Or.inl rfl | (right; simp; done) | (right; simp; omega) | (right; omega)) _ | with_reducible refine only_alloc ?_ _ | with_reducible exact World.grownBy.refl _ _ | with_reducible assumption)), (JG.set 0 (.int .i64 x.epoch)).of_eq rfl⟩ (fun W' h => hTP' _ (J1.grown h.1 nz)) ?_
          rintro wb ⟨gb, JGb⟩
          have J0b := J0.grown gb (ne _ (by omega))
          have J1b := J1.grown gb nz
          have J2b := J2.grown gb (ne _ (by omega))
          have SDb := SD.stored JG (by simp [rgv]) gb
          have hwdb := hwd.trans (below_grown gb (by omega) hwd.size)
          clear fr y0 y1 y2 lG hKE KE J0 J1 J2 JG SD hwd gb
          try clear wa
          obtain ⟨wa, rfl⟩ : ∃ z, z = wb := ⟨_, rfl⟩
          have J0 := J0b
          have J1 := J1b
          have J2 := J2b
          have JG := JGb
          have SD := SDb
          have hwd := hwdb
          clear J0b J1b J2b JGb SDb hwdb
          go_wp2_with (first
            | (apply SeqP.skip; rfl; simp only [Act.put, List.setIfInBounds_toArray, List.set_cons_zero, List.set_cons_succ])
            | (apply SeqP.call; rfl; rfl; (intro w2 hw; have hw := hTP _ hw; ((have z2 := hw.cell 2; simp [rcv] at z2)); go_simp; exact ⟨rfl, rfl⟩); (intro w2 hw; have hw := hTP _ hw; ((have z2 := hw.cell 2; simp [rcv] at z2)); (first | fail)); simp only [Act.put, List.setIfInBounds_toArray, List.set_cons_zero, List.set_cons_succ])
            | (apply SeqP.pure; rfl; (intro w2 hw; have hw := hTP _ hw; ((have z2 := hw.cell 2; simp [rcv] at z2)); go_simp; with_reducible rfl); simp only [Act.put, List.setIfInBounds_toArray, List.set_cons_zero, List.set_cons_succ])
            | (apply SeqP.split; rfl; rfl; all_goals (intro hc; simp only [hc]; try simp only [beq_iff_eq, decide_eq_true_eq, beq_eq_false_iff_ne, decide_eq_false_iff_not, bne_iff_ne, ne_eq, Bool.not_eq_true', Bool.not_eq_false', Int.not_le, Int.not_lt, bne_eq_false_iff_eq, Bool.or_eq_true, Bool.and_eq_true, Bool.or_eq_false_iff] at hc)))
          apply SeqP.eff
          · rfl
          intro KE hKE
          have fr := JG.frozen
          have y0 := JG.cell 0
          have y1 := JG.cell 1
          have y2 := JG.cell 2
          have lG := JG.lt
          simp [rgv] at y0 y1 y2
          go_wp2_with fail
          refine eff_abs hKE (fun W' => wa.grownBy W' (some g) ∧ Blk W' g 37 (rgv ⟨x.epoch, x.epoch, r.log, r.com⟩ s)) ⟨by (repeat (first | with_reducible apply only_drew | with_reducible refine only_setCell ?_ (by first | exact Or.inl rfl | (right; simp; done) | (right; simp; omega) | (right; omega)) _ | with_reducible refine only_alloc ?_ _ | with_reducible exact World.grownBy.refl _ _ | with_reducible assumption)), (JG.set 1 (.int .i64 x.epoch)).of_eq rfl⟩ (fun W' h => hTP' _ (J1.grown h.1 nz)) ?_
          rintro wb ⟨gb, JGb⟩
          have J0b := J0.grown gb (ne _ (by omega))
          have J1b := J1.grown gb nz
          have J2b := J2.grown gb (ne _ (by omega))
          have SDb := SD.stored JG (by simp [rgv]) gb
          have hwdb := hwd.trans (below_grown gb (by omega) hwd.size)
          clear fr y0 y1 y2 lG hKE KE J0 J1 J2 JG SD hwd gb
          try clear wa
          obtain ⟨wa, rfl⟩ : ∃ z, z = wb := ⟨_, rfl⟩
          have J0 := J0b
          have J1 := J1b
          have J2 := J2b
          have JG := JGb
          have SD := SDb
          have hwd := hwdb
          clear J0b J1b J2b JGb SDb hwdb
          go_wp2_with (first
            | (apply SeqP.skip; rfl; simp only [Act.put, List.setIfInBounds_toArray, List.set_cons_zero, List.set_cons_succ])
            | (apply SeqP.call; rfl; rfl; (intro w2 hw; have hw := hTP _ hw; ((have z2 := hw.cell 2; simp [rcv] at z2)); go_simp; exact ⟨rfl, rfl⟩); (intro w2 hw; have hw := hTP _ hw; ((have z2 := hw.cell 2; simp [rcv] at z2)); (first | fail)); simp only [Act.put, List.setIfInBounds_toArray, List.set_cons_zero, List.set_cons_succ])
            | (apply SeqP.pure; rfl; (intro w2 hw; have hw := hTP _ hw; ((have z2 := hw.cell 2; simp [rcv] at z2)); go_simp; with_reducible rfl); simp only [Act.put, List.setIfInBounds_toArray, List.set_cons_zero, List.set_cons_succ])
            | (apply SeqP.split; rfl; rfl; all_goals (intro hc; simp only [hc]; try simp only [beq_iff_eq, decide_eq_true_eq, beq_eq_false_iff_ne, decide_eq_false_iff_not, bne_iff_ne, ne_eq, Bool.not_eq_true', Bool.not_eq_false', Int.not_le, Int.not_lt, bne_eq_false_iff_eq, Bool.or_eq_true, Bool.and_eq_true, Bool.or_eq_false_iff] at hc)))
          apply SeqP.eff
          · rfl
          intro KE hKE
          have fr := JG.frozen
          have y0 := JG.cell 0
          have y1 := JG.cell 1
          have y2 := JG.cell 2
          have lG := JG.lt
          simp [rgv] at y0 y1 y2
          go_wp2_with fail
          refine eff_abs hKE (fun W' => wa.grownBy W' (some g) ∧ Blk W' g 37 (rgv ⟨x.epoch, x.epoch, L, r.com⟩ (Al, L.length, cl))) ⟨by (repeat (first | with_reducible apply only_drew | with_reducible refine only_setCell ?_ (by first | exact Or.inl rfl | (right; simp; done) | (right; simp; omega) | (right; omega)) _ | with_reducible refine only_alloc ?_ _ | with_reducible exact World.grownBy.refl _ _ | with_reducible assumption)), (JG.set 2 (.slice Al L.length cl)).of_eq rfl⟩ (fun W' h => hTP' _ (J1.grown h.1 nz)) ?_
          rintro wb ⟨gb, JGb⟩
          have J0b := J0.grown gb (ne _ (by omega))
          have J1b := J1.grown gb nz
          have J2b := J2.grown gb (ne _ (by omega))
          have SDb := SD.stored JG (by simp [rgv]) gb
          have hwdb := hwd.trans (below_grown gb (by omega) hwd.size)
          clear fr y0 y1 y2 lG hKE KE J0 J1 J2 JG SD hwd gb
          try clear wa
          obtain ⟨wa, rfl⟩ : ∃ z, z = wb := ⟨_, rfl⟩
          have J0 := J0b
          have J1 := J1b
          have J2 := J2b
          have JG := JGb
          have SD := SDb
          have hwd := hwdb
          clear J0b J1b J2b JGb SDb hwdb
          go_wp2_with (first
            | (apply SeqP.skip; rfl; simp only [Act.put, List.setIfInBounds_toArray, List.set_cons_zero, List.set_cons_succ])
            | (apply SeqP.call; rfl; rfl; (intro w2 hw; have hw := hTP _ hw; ((have z2 := hw.cell 2; simp [rcv] at z2)); go_simp; exact ⟨rfl, rfl⟩); (intro w2 hw; have hw := hTP _ hw; ((have z2 := hw.cell 2; simp [rcv] at z2)); (first | fail)); simp only [Act.put, List.setIfInBounds_toArray, List.set_cons_zero, List.set_cons_succ])
            | (apply SeqP.pure; rfl; (intro w2 hw; have hw := hTP _ hw; ((have z2 := hw.cell 2; simp [rcv] at z2)); go_simp; with_reducible rfl); simp only [Act.put, List.setIfInBounds_toArray, List.set_cons_zero, List.set_cons_succ])
            | (apply SeqP.split; rfl; rfl; all_goals (intro hc; simp only [hc]; try simp only [beq_iff_eq, decide_eq_true_eq, beq_eq_false_iff_ne, decide_eq_false_iff_not, bne_iff_ne, ne_eq, Bool.not_eq_true', Bool.not_eq_false', Int.not_le, Int.not_lt, bne_eq_false_iff_eq, Bool.or_eq_true, Bool.and_eq_true, Bool.or_eq_false_iff] at hc)))
          apply SeqP.nil
          refine hKP _ _ (hTP' _ (J1)) ?_
          clear hKP hTP hTP'
          go_wp2_with ((with_reducible refine at_list ?_); first | refine wpList_load_blk rfl 37 _ rfl _ rfl _ _ _ (JG) Try.underlying37 rfl rg_info ?_ | (refine wpList_store_own rfl 37 _ _ rfl _ (rgv _ (Al, L.length, cl)) rfl rfl _ _ (J2) rg_info rfl (rgv_one _ _) ?_; intro w8 B8 g8))
          have hw8 := hwd.trans (below_grown g8 (by omega) hwd.size)
          have SD8 := SD.stored J2 (by simp [rgv]) g8
          apply ret_of
          · exact results_blk_tmp rfl _ _ _ _ _ _ rfl (B8) Try.underlying37 rfl rg_info _ rfl
          · exact ⟨rfl, DocP.yes HY.out (Al, L.length, cl) rfl SD8 hw8⟩
end Go.Proofs.Ytdphfhenjndkkaa

set_option linter.unusedSimpArgs false
set_option linter.unusedVariables false
set_option maxRecDepth 100000
namespace Go.Proofs.Ytdphfhenjndkkaa
open Go Go.RowKit Go.Sq Go.Wd Go.Arch

set_option maxHeartbeats 4000000 in
theorem doc_off (r : RegS) (sl : SlcE) (x : RecV) (w : World) (hm : mayR r = false) (hl : LogAt w w.heap.size sl r.log) :
    Calls Try.prog 73 #[.agg (rgv r sl).toArray, .agg (rcv x).toArray] w (DocP r x.s w) := by
  have HM := Lib.hid (apply_bad (x := x.s) hm)
  have hz : Below w.heap.size w (((w.alloc (.cells (rgv r sl).toArray 37)).alloc (.cells (rcv x).toArray 53)).alloc (.cells (rgv reg0 (none, 0, 0)).toArray 37)) := (((Below.refl _ _).alloc (Nat.le_refl _) _).alloc (by simp) _).alloc (by simp; omega) _
  have BZ : Blk (((w.alloc (.cells (rgv r sl).toArray 37)).alloc (.cells (rcv x).toArray 53)).alloc (.cells (rgv reg0 (none, 0, 0)).toArray 37)) (w.heap.size + 1 + 1) 37 (rgv reg0 (none, 0, 0)) := Blk.newAt _ _ _ (by simp)
  have B0 : Blk (((w.alloc (.cells (rgv r sl).toArray 37)).alloc (.cells (rcv x).toArray 53)).alloc (.cells (rgv reg0 (none, 0, 0)).toArray 37)) w.heap.size 37 (rgv r sl) := ((Blk.new w _ _).alloc _).alloc _
  have hc := rcheck15_any r sl _ (hl.keep hz)
  rw [hm] at hc
  have HH := Lib.hid (And.intro hz (And.intro BZ (And.intro B0 hc)))
  clear hz BZ B0 hc hl hm
  go_enter Try.func73, Try.ntmps73
  go_wp2_with ((with_reducible refine at_list ?_); refine wpList_load_blk rfl 37 _ rfl _ rfl _ _ _ (HH.out.2.2.1) Try.underlying37 rfl rg_info ?_)
  refine HH.out.2.2.2.mono ?_
  rintro e w1 ⟨rfl, hb⟩
  have hw1 := below_trans HH.out.1 hb HH.out.1.size
  have C2 := HH.out.2.1.keep hb
  clear HH hb
  go_wp2_with ((with_reducible refine at_list ?_); (refine wpList_store_own rfl 37 _ _ rfl _ (rgv reg0 (none, 0, 0)) rfl rfl _ _ (C2) rg_info rfl (rgv_one _ _) ?_; intro w8 B8 g8))
  have hw8 := hw1.trans (below_grown g8 (by omega) hw1.size)
  apply ret_of
  · exact results_blk_tmp rfl _ _ _ _ _ _ rfl (B8) Try.underlying37 rfl rg_info _ rfl
  · exact ⟨rfl, DocP.no HM.out rfl hw8⟩

set_option maxHeartbeats 8000000 in
theorem doc_on (r : RegS) (sl : SlcE) (x : RecV) (w : World) (hm : mayR r = true) (hk2 : x.kind ≠ 2) (hl : LogAt w w.heap.size sl r.log) (hx : LogAt w w.heap.size x.es x.ents) (hx2 : x.ents.length ≤ 1000) :
    Calls Try.prog 73 #[.agg (rgv r sl).toArray, .agg (rcv x).toArray] w (DocP r x.s w) := by
  have m64 : r.log.length ≤ 64 := ((okLog_iff _ _).1 ((mayR_iff r).1 hm).2.1).1
  obtain ⟨As, ns, cs⟩ := sl
  obtain rfl : ns = r.log.length := hl.1
  have hz : Below w.heap.size w (((w.alloc (.cells (rgv r (As, r.log.length, cs)).toArray 37)).alloc (.cells (rcv x).toArray 53)).alloc (.cells (rgv reg0 (none, 0, 0)).toArray 37)) := (((Below.refl _ _).alloc (Nat.le_refl _) _).alloc (by simp) _).alloc (by simp; omega) _
  have BZ : Blk (((w.alloc (.cells (rgv r (As, r.log.length, cs)).toArray 37)).alloc (.cells (rcv x).toArray 53)).alloc (.cells (rgv reg0 (none, 0, 0)).toArray 37)) (w.heap.size + 1 + 1) 37 (rgv reg0 (none, 0, 0)) := Blk.newAt _ _ _ (by simp)
  have B0 : Blk (((w.alloc (.cells (rgv r (As, r.log.length, cs)).toArray 37)).alloc (.cells (rcv x).toArray 53)).alloc (.cells (rgv reg0 (none, 0, 0)).toArray 37)) w.heap.size 37 (rgv r (As, r.log.length, cs)) := ((Blk.new w _ _).alloc _).alloc _
  have B1 : Blk (((w.alloc (.cells (rgv r (As, r.log.length, cs)).toArray 37)).alloc (.cells (rcv x).toArray 53)).alloc (.cells (rgv reg0 (none, 0, 0)).toArray 37)) (w.heap.size + 1) 53 (rcv x) := (Blk.newAt _ _ _ (by simp)).alloc _
  have hc := rcheck15_any r (As, r.log.length, cs) _ (hl.keep hz)
  rw [hm] at hc
  have HM := Lib.hid hm
  have HLX := Lib.hid (And.intro hl hx)
  have HH := Lib.hid (And.intro hz (And.intro BZ (And.intro B0 (And.intro B1 hc))))
  clear hz BZ B0 B1 hc hl hm hx
  go_enter Try.func73, Try.ntmps73
  go_wp2_with ((with_reducible refine at_list ?_); refine wpList_load_blk rfl 37 _ rfl _ rfl _ _ _ (HH.out.2.2.1) Try.underlying37 rfl rg_info ?_)
  refine HH.out.2.2.2.2.mono ?_
  rintro e w1 ⟨rfl, hb⟩
  have hw1 := below_trans HH.out.1 hb HH.out.1.size
  have hz1 := hw1.size
  have CZ := HH.out.2.1.keep hb
  have C0 := HH.out.2.2.1.keep hb
  have C1 := HH.out.2.2.2.1.keep hb
  have lZ := CZ.lt
  have HL1 := Lib.hid (HLX.out.1.keep hw1)
  clear HH hb
  go_wp2_with fail
  refine wp_region_t (.quiet 0 (.quiet 1 (.quiet 2 (.quiet 3 (.quiet 4 (.quiet 5 (.quiet 7 (.quiet 8 (.two 6 10 (.quiet 9 (.one 10 (.one 11 .done))) (.one 6 (.quiet 9 (.one 11 .done)))))))))))) (fun w' => Below w1.heap.size w1 w' ∧ Blk w' w.heap.size 37 (rgv r (As, r.log.length, cs))) (by kernel_rfl) (by kernel_rfl) (by kernel_rfl) (by kernel_rfl) (⟨(Below.refl _ _).drew, C0.drew⟩) rfl ?_
  intro KP RP TP hKP hTP hTP'
  simp only [Sch.fill, nth]
  apply merge2 (Inv := fun g s w' => Below w1.heap.size w1 w' ∧ w1.heap.size ≤ g ∧ Blk w' g 37 (rgv r s) ∧ LogAt w' w'.heap.size s r.log) (K := KP)
  · intro HK
    have hQ : Below w1.heap.size w1 w1.drew := (Below.refl _ _).drew
    generalize w1.drew = wc at hQ ⊢
    go_wp2_with (first
      | (apply SeqT.skip; rfl; simp only [Act.put, List.setIfInBounds_toArray, List.set_cons_zero, List.set_cons_succ])
      | (apply SeqT.pure; rfl; (intro w9 hw9; have hw9 := hTP _ hw9; (have z0 := hw9.2.cell 0; have z1 := hw9.2.cell 1; have z2 := hw9.2.cell 2; have z3 := hw9.2.cell 3; simp [rgv] at z0 z1 z2 z3); go_simp; with_reducible rfl); simp only [Act.put, List.setIfInBounds_toArray, List.set_cons_zero, List.set_cons_succ]))
    apply SeqT.two
    · apply EffT.go
      · rfl
      intro KE hKE
      obtain ⟨v, w4, hrun, hRv, hb⟩ := copy_nil r.log As cs wc (HL1.out.keep hQ).2.2.2 (by omega)
      refine oper_app (by rfl) (by rfl) (by rfl) hrun ?_
      obtain ⟨s, rfl, hs⟩ := hRv.log
      have hw4 := below_trans hQ hb hQ.size
      refine hKE _ _ (hTP' _ ⟨hw4, C0.keep hw4⟩) ?_
      clear hKE KE hrun hRv
      go_wp2_with (first
        | (apply SeqT.skip; rfl; simp only [Act.put, List.setIfInBounds_toArray, List.set_cons_zero, List.set_cons_succ])
        | (apply SeqT.pure; rfl; (intro w9 hw9; have hw9 := hTP _ hw9; (have z0 := hw9.2.cell 0; have z1 := hw9.2.cell 1; have z2 := hw9.2.cell 2; have z3 := hw9.2.cell 3; simp [rgv] at z0 z1 z2 z3); go_simp; with_reducible rfl); simp only [Act.put, List.setIfInBounds_toArray, List.set_cons_zero, List.set_cons_succ]))
      apply SeqT.one
      apply EffT.go
      · rfl
      intro KE hKE
      go_wp2_with fail
      refine eff_abs hKE (fun W' => Below w4.heap.size w4 W' ∧ Blk W' w4.heap.size 37 (rgv reg0 (none, 0, 0))) ⟨(Below.refl _ _).alloc (Nat.le_refl _) _, Blk.new w4 _ _⟩ (fun W' h => hTP' _ ⟨below_trans hw4 h.1 hw4.size, C0.keep (below_trans hw4 h.1 hw4.size)⟩) ?_
      rintro w5 ⟨hb5, Z5⟩
      have hw5 := below_trans hw4 hb5 hw4.size
      have hs5 := hs.keep hb5
      have hgz := hw4.size
      clear hKE KE hs hb5
      generalize w4.heap.size = gz at Z5 hgz ⊢
      apply SeqT.one
      apply EffT.go
      · rfl
      intro KE hKE
      refine wp_store_own 37 _ _ rfl _ (rgv r s) rfl rfl _ _ Z5 rg_info rfl (rgv_one _ _) ?_
      intro w6 B6 g6
      have hw6 := hw5.trans (below_grown g6 hgz hw5.size)
      have hs6 := hs5.stored Z5 (by simp [rgv]) g6
      refine hKE _ _ (hTP' _ ⟨hw6, C0.keep hw6⟩) ?_
      clear hKE KE
      go_wp2_with (first
        | (apply SeqT.skip; rfl; simp only [Act.put, List.setIfInBounds_toArray, List.set_cons_zero, List.set_cons_succ])
        | (apply SeqT.pure; rfl; (intro w9 hw9; have hw9 := hTP _ hw9; (have z0 := hw9.2.cell 0; have z1 := hw9.2.cell 1; have z2 := hw9.2.cell 2; have z3 := hw9.2.cell 3; simp [rgv] at z0 z1 z2 z3); go_simp; with_reducible rfl); simp only [Act.put, List.setIfInBounds_toArray, List.set_cons_zero, List.set_cons_succ]))
      apply SeqT.done
      exact HK gz s _ ⟨hw6, hgz, B6, hs6⟩
    · apply EffT.go
      · rfl
      intro KE hKE
      go_wp2_with fail
      refine eff_abs hKE (fun W' => Below wc.heap.size wc W' ∧ Blk W' wc.heap.size 37 (rgv reg0 (none, 0, 0))) ⟨(Below.refl _ _).alloc (Nat.le_refl _) _, Blk.new wc _ _⟩ (fun W' h => hTP' _ ⟨below_trans hQ h.1 hQ.size, C0.keep (below_trans hQ h.1 hQ.size)⟩) ?_
      rintro w5 ⟨hb5, Z5⟩
      have hw5 := below_trans hQ hb5 hQ.size
      have hgz := hQ.size
      clear hKE KE hb5
      generalize wc.heap.size = gz at Z5 hgz ⊢
      go_wp2_with (first
        | (apply SeqT.skip; rfl; simp only [Act.put, List.setIfInBounds_toArray, List.set_cons_zero, List.set_cons_succ])
        | (apply SeqT.pure; rfl; (intro w9 hw9; have hw9 := hTP _ hw9; (have z0 := hw9.2.cell 0; have z1 := hw9.2.cell 1; have z2 := hw9.2.cell 2; have z3 := hw9.2.cell 3; simp [rgv] at z0 z1 z2 z3); go_simp; with_reducible rfl); simp only [Act.put, List.setIfInBounds_toArray, List.set_cons_zero, List.set_cons_succ]))
      apply SeqT.one
      apply EffT.go
      · rfl
      intro KE hKE
      obtain ⟨v, w4, hrun, hRv, hb⟩ := copy_nil r.log As cs w5 (HL1.out.keep hw5).2.2.2 (by omega)
      refine oper_app (by rfl) (by rfl) (by rfl) hrun ?_
      obtain ⟨s, rfl, hs⟩ := hRv.log
      have hw4 := below_trans hw5 hb hw5.size
      have Z4 := Z5.keep hb
      refine hKE _ _ (hTP' _ ⟨hw4, C0.keep hw4⟩) ?_
      clear hKE KE hrun hRv
      go_wp2_with (first
        | (apply SeqT.skip; rfl; simp only [Act.put, List.setIfInBounds_toArray, List.set_cons_zero, List.set_cons_succ])
        | (apply SeqT.pure; rfl; (intro w9 hw9; have hw9 := hTP _ hw9; (have z0 := hw9.2.cell 0; have z1 := hw9.2.cell 1; have z2 := hw9.2.cell 2; have z3 := hw9.2.cell 3; simp [rgv] at z0 z1 z2 z3); go_simp; with_reducible rfl); simp only [Act.put, List.setIfInBounds_toArray, List.set_cons_zero, List.set_cons_succ]))
      apply SeqT.one
      apply EffT.go
      · rfl
      intro KE hKE
      refine wp_store_own 37 _ _ rfl _ (rgv r s) rfl rfl _ _ Z4 rg_info rfl (rgv_one _ _) ?_
      intro w6 B6 g6
      have hw6 := hw4.trans (below_grown g6 hgz hw4.size)
      have hs6 := hs.stored Z4 (by simp [rgv]) g6
      refine hKE _ _ (hTP' _ ⟨hw6, C0.keep hw6⟩) ?_
      clear hKE KE
      go_wp2_with (first
        | (apply SeqT.skip; rfl; simp only [Act.put, List.setIfInBounds_toArray, List.set_cons_zero, List.set_cons_succ])
        | (apply SeqT.pure; rfl; (intro w9 hw9; have hw9 := hTP _ hw9; (have z0 := hw9.2.cell 0; have z1 := hw9.2.cell 1; have z2 := hw9.2.cell 2; have z3 := hw9.2.cell 3; simp [rgv] at z0 z1 z2 z3); go_simp; with_reducible rfl); simp only [Act.put, List.setIfInBounds_toArray, List.set_cons_zero, List.set_cons_succ]))
      apply SeqT.done
      exact HK gz s _ ⟨hw6, hgz, B6, hs6⟩
  intro g s w3 ⟨hb, hge, G3, hs⟩
  refine hKP _ _ (hTP' _ ⟨hb, C0.keep hb⟩) ?_
  clear hKP hTP hTP'
  have hw3 := below_trans hw1 hb hz1
  have E0 := C0.keep hb
  have E1 := C1.keep hb
  have E2 := CZ.keep hb
  have HS := Lib.hid hs
  have HL3 := Lib.hid (And.intro (HLX.out.1.keep hw3) (HLX.out.2.keep hw3))
  have hz3 := hw3.size
  have l3 := E2.lt
  have lG := G3.lt
  have hgg : w.heap.size + 1 + 1 < g := by omega
  clear hb C0 C1 CZ HL1 hw1 hz1 lZ hge hs
  try clear w1
  have lE1 := E1.lt
  have lE0 := E0.lt
  have x0 := E1.cell 0
  have x2 := E1.cell 2
  have x5 := E1.cell 5
  have r0 := E0.cell 0
  have r2 := E0.cell 2
  have r3 := E0.cell 3
  have fr := G3.frozen
  have g0 := G3.cell 0
  have g3 := G3.cell 3
  simp [rcv] at x0 x2 x5
  simp [rgv] at r0 r2 r3 g0 g3
  by_cases k1 : x.kind = 1
  case pos =>
    rw [k1] at x0
    have hA : applyR r x.s = if r.prom < x.epoch ∧ x.epoch ≤ 1048576 then some { r with prom := x.epoch } else none := apply_1 (x := x.s) HM.out k1
    have F0 := G3.set 0 (.int .i64 x.epoch)
    have F0 : Blk _ _ _ (rgv { r with prom := x.epoch } s) := F0.of_eq rfl
    have F2 := E2.far (p := ⟨g, 0, none⟩) (by simp; omega) (.int .i64 x.epoch)
    have g4 : w3.grownBy (w3.setCell ⟨g, 0, none⟩ (.int .i64 x.epoch)) (some g) := by (repeat (first | with_reducible apply only_drew | with_reducible refine only_setCell ?_ (by first | exact Or.inl rfl | (right; simp; done) | (right; simp; omega) | (right; omega)) _ | with_reducible refine only_alloc ?_ _ | with_reducible exact World.grownBy.refl _ _ | with_reducible assumption))
    have hw4 := hw3.trans (below_grown g4 (by omega) hz3)
    have S4 := HS.out.stored G3 (by simp [rgv]) g4
    have H4 := Lib.hid (And.intro hw4 S4)
    clear hw4 S4 g4 k1
    by_cases hc : r.prom < x.epoch ∧ x.epoch ≤ 1048576
    · rw [if_pos hc] at hA
      have HA := Lib.hid hA
      obtain ⟨c1, c2⟩ := hc
      have c1b : ¬ x.epoch ≤ r.prom := by omega
      have c2b : ¬ (1048576 : Int) < x.epoch := by omega
      clear hA
      go_wp2_with ((with_reducible refine at_list ?_); first | refine wpList_load_blk rfl 37 _ rfl _ rfl _ _ _ (F0) Try.underlying37 rfl rg_info ?_ | (refine wpList_store_own rfl 37 _ _ rfl _ (rgv _ s) rfl rfl _ _ (F2) rg_info rfl (rgv_one _ _) ?_; intro w8 B8 g8))
      have hw8 := H4.out.1.trans (below_grown g8 (by omega) H4.out.1.size)
      have S8 := H4.out.2.stored F2 (by simp [rgv]) g8
      apply ret_of
      · exact results_blk_tmp rfl _ _ _ _ _ _ rfl (B8) Try.underlying37 rfl rg_info _ rfl
      · exact ⟨rfl, DocP.yes HA.out s rfl S8 hw8⟩
    · rw [if_neg hc] at hA
      have HA := Lib.hid hA
      clear hA F0 F2
      have hcc : x.epoch ≤ r.prom ∨ (¬ x.epoch ≤ r.prom ∧ (1048576 : Int) < x.epoch) := by omega
      clear hc H4
      rcases hcc with c1 | ⟨c1, c2⟩
      all_goals
        go_wp2_with ((with_reducible refine at_list ?_); (refine wpList_store_own rfl 37 _ _ rfl _ (rgv reg0 (none, 0, 0)) rfl rfl _ _ (E2) rg_info rfl (rgv_one _ _) ?_; intro w8 B8 g8))
        have hw8 := hw3.trans (below_grown g8 (by omega) hz3)
        apply ret_of
        · exact results_blk_tmp rfl _ _ _ _ _ _ rfl (B8) Try.underlying37 rfl rg_info _ rfl
        · exact ⟨rfl, DocP.no HA.out rfl hw8⟩
  by_cases k2 : x.kind = 2
  case pos => exact absurd k2 hk2
  by_cases k3 : x.kind = 3
  case pos =>
    rw [k3] at x0
    have hA : applyR r x.s = if r.com < x.len ∧ x.len ≤ (r.log.length : Int) then some { r with com := x.len } else none := apply_3 (x := x.s) HM.out k3
    have F0 := G3.set 3 (.int .i64 x.len)
    have F0 : Blk _ _ _ (rgv { r with com := x.len } s) := F0.of_eq rfl
    have F2 := E2.far (p := ⟨g, 3, none⟩) (by simp; omega) (.int .i64 x.len)
    have g4 : w3.grownBy (w3.setCell ⟨g, 3, none⟩ (.int .i64 x.len)) (some g) := by (repeat (first | with_reducible apply only_drew | with_reducible refine only_setCell ?_ (by first | exact Or.inl rfl | (right; simp; done) | (right; simp; omega) | (right; omega)) _ | with_reducible refine only_alloc ?_ _ | with_reducible exact World.grownBy.refl _ _ | with_reducible assumption))
    have hw4 := hw3.trans (below_grown g4 (by omega) hz3)
    have S4 := HS.out.stored G3 (by simp [rgv]) g4
    have H4 := Lib.hid (And.intro hw4 S4)
    clear hw4 S4 g4 k1 k2 k3
    by_cases hc : r.com < x.len ∧ x.len ≤ (r.log.length : Int)
    · rw [if_pos hc] at hA
      have HA := Lib.hid hA
      obtain ⟨c1, c2⟩ := hc
      have c1b : ¬ x.len ≤ r.com := by omega
      have c2b : ¬ (r.log.length : Int) < x.len := by omega
      clear hA
      go_wp2_with ((with_reducible refine at_list ?_); first | refine wpList_load_blk rfl 37 _ rfl _ rfl _ _ _ (F0) Try.underlying37 rfl rg_info ?_ | (refine wpList_store_own rfl 37 _ _ rfl _ (rgv _ s) rfl rfl _ _ (F2) rg_info rfl (rgv_one _ _) ?_; intro w8 B8 g8))
      have hw8 := H4.out.1.trans (below_grown g8 (by omega) H4.out.1.size)
      have S8 := H4.out.2.stored F2 (by simp [rgv]) g8
      apply ret_of
      · exact results_blk_tmp rfl _ _ _ _ _ _ rfl (B8) Try.underlying37 rfl rg_info _ rfl
      · exact ⟨rfl, DocP.yes HA.out s rfl S8 hw8⟩
    · rw [if_neg hc] at hA
      have HA := Lib.hid hA
      clear hA F0 F2
      have hcc : x.len ≤ r.com ∨ (¬ x.len ≤ r.com ∧ (r.log.length : Int) < x.len) := by omega
      clear hc H4
      rcases hcc with c1 | ⟨c1, c2⟩
      all_goals
        go_wp2_with ((with_reducible refine at_list ?_); (refine wpList_store_own rfl 37 _ _ rfl _ (rgv reg0 (none, 0, 0)) rfl rfl _ _ (E2) rg_info rfl (rgv_one _ _) ?_; intro w8 B8 g8))
        have hw8 := hw3.trans (below_grown g8 (by omega) hz3)
        apply ret_of
        · exact results_blk_tmp rfl _ _ _ _ _ _ rfl (B8) Try.underlying37 rfl rg_info _ rfl
        · exact ⟨rfl, DocP.no HA.out rfl hw8⟩
  by_cases k4 : x.kind = 4
  case pos =>
    rw [k4] at x0
    have hA : applyR r x.s = if r.prom = 0 ∧ mayR ⟨x.epoch, x.view, x.ents, x.len⟩ = true then some ⟨x.epoch, x.view, x.ents, x.len⟩ else none := apply_4 (x := x.s) HM.out k4
    have HA := Lib.hid hA
    have hes : x.es.2.1 = x.ents.length := HL3.out.2.1
    have HLE : Hid (∀ W', Below w3.heap.size w3 W' → LogAt W' W'.heap.size (x.es.1, x.ents.length, x.es.2.2) x.ents) := Lib.hid (fun W' h => by have h2 := HL3.out.2.keep h; exact ⟨rfl, h2.2.1, h2.2.2.1, h2.2.2.2⟩)
    clear hA k1 k2 k3 k4 x2 x5 r2 r3 r0 g0 g3 fr
    go_wp2_with fail
    clear x0
    refine wp_region_p ([(0, true), (1, true), (2, true), (3, true), (4, true), (5, true), (7, true), (8, true), (6, false), (9, true), (10, false)]) (fun w' => Blk w' (w.heap.size + 1) 53 (rcv x)) (by kernel_rfl) rfl (by kernel_rfl) (by kernel_rfl) (E1.drew) rfl ?_
    intro KP RP TP hKP hTP hTP'
    simp only [pick, nth]
    go_wp2_with (first
      | (apply SeqP.skip; rfl; simp only [Act.put, List.setIfInBounds_toArray, List.set_cons_zero, List.set_cons_succ])
      | (apply SeqP.call; rfl; rfl; (intro w2 hw; have hw := hTP _ hw; ((have z2 := hw.cell 2; have z3 := hw.cell 3; have z5 := hw.cell 5; have z6 := hw.cell 6; simp [rcv] at z2 z3 z5 z6; rw [hes] at z6)); go_simp; exact ⟨rfl, rfl⟩); (intro w2 hw; have hw := hTP _ hw; ((have z2 := hw.cell 2; have z3 := hw.cell 3; have z5 := hw.cell 5; have z6 := hw.cell 6; simp [rcv] at z2 z3 z5 z6; rw [hes] at z6)); (first | fail)); simp only [Act.put, List.setIfInBounds_toArray, List.set_cons_zero, List.set_cons_succ])
      | (apply SeqP.pure; rfl; (intro w2 hw; have hw := hTP _ hw; ((have z2 := hw.cell 2; have z3 := hw.cell 3; have z5 := hw.cell 5; have z6 := hw.cell 6; simp [rcv] at z2 z3 z5 z6; rw [hes] at z6)); go_simp; with_reducible rfl); simp only [Act.put, List.setIfInBounds_toArray, List.set_cons_zero, List.set_cons_succ])
      | (apply SeqP.split; rfl; rfl; all_goals (intro hc; simp only [hc]; try simp only [beq_iff_eq, decide_eq_true_eq, beq_eq_false_iff_ne, decide_eq_false_iff_not, bne_iff_ne, ne_eq, Bool.not_eq_true', Bool.not_eq_false', Int.not_le, Int.not_lt, bne_eq_false_iff_eq, Bool.or_eq_true, Bool.and_eq_true, Bool.or_eq_false_iff] at hc)))
    apply SeqP.eff
    · rfl
    intro KE hKE
    have hQ : Below w3.heap.size w3 w3.drew := (Below.refl _ _).drew
    obtain ⟨v, w4, hrun, hRv, hb⟩ := copy_nil x.ents x.es.1 x.es.2.2 w3.drew (HLE.out _ hQ).2.2.2 (by omega)
    refine oper_app (by rfl) (by rfl) (by rfl) hrun ?_
    obtain ⟨s2, rfl, hs2⟩ := hRv.log
    have hQ4 := below_trans hQ hb hQ.size
    refine hKE _ _ (hTP' _ (E1.keep hQ4)) ?_
    clear hKE KE hrun hRv hb
    go_wp2_with (first
      | (apply SeqP.skip; rfl; simp only [Act.put, List.setIfInBounds_toArray, List.set_cons_zero, List.set_cons_succ])
      | (apply SeqP.call; rfl; rfl; (intro w2 hw; have hw := hTP _ hw; ((have z2 := hw.cell 2; have z3 := hw.cell 3; have z5 := hw.cell 5; have z6 := hw.cell 6; simp [rcv] at z2 z3 z5 z6; rw [hes] at z6)); go_simp; exact ⟨rfl, rfl⟩); (intro w2 hw; have hw := hTP _ hw; ((have z2 := hw.cell 2; have z3 := hw.cell 3; have z5 := hw.cell 5; have z6 := hw.cell 6; simp [rcv] at z2 z3 z5 z6; rw [hes] at z6)); (first | fail)); simp only [Act.put, List.setIfInBounds_toArray, List.set_cons_zero, List.set_cons_succ])
      | (apply SeqP.pure; rfl; (intro w2 hw; have hw := hTP _ hw; ((have z2 := hw.cell 2; have z3 := hw.cell 3; have z5 := hw.cell 5; have z6 := hw.cell 6; simp [rcv] at z2 z3 z5 z6; rw [hes] at z6)); go_simp; with_reducible rfl); simp only [Act.put, List.setIfInBounds_toArray, List.set_cons_zero, List.set_cons_succ])
      | (apply SeqP.split; rfl; rfl; all_goals (intro hc; simp only [hc]; try simp only [beq_iff_eq, decide_eq_true_eq, beq_eq_false_iff_ne, decide_eq_false_iff_not, bne_iff_ne, ne_eq, Bool.not_eq_true', Bool.not_eq_false', Int.not_le, Int.not_lt, bne_eq_false_iff_eq, Bool.or_eq_true, Bool.and_eq_true, Bool.or_eq_false_iff] at hc)))
    apply SeqP.eff
    · rfl
    intro KE hKE
    refine wp_store_own 37 _ _ rfl _ (rgv ⟨x.epoch, x.view, x.ents, x.len⟩ s2) rfl rfl _ _ (G3.keep hQ4) rg_info rfl (rgv_one _ _) ?_
    intro w5 B5 g5
    have ne : ∀ m, m ≠ g → some m ≠ some g := fun m h e => h (Option.some.inj e)
    have P0 := (E0.keep hQ4).grown g5 (ne _ (by omega))
    have P1 := (E1.keep hQ4).grown g5 (ne _ (by omega))
    have P2 := (E2.keep hQ4).grown g5 (ne _ (by omega))
    have hs5 := hs2.stored (G3.keep hQ4) (by simp [rgv]) g5
    have hw4 := below_trans hw3 hQ4 hz3
    have hw5 := hw4.trans (below_grown g5 (by omega) hw4.size)
    refine hKE _ _ (hTP' _ P1) ?_
    clear hKE KE hw4 hs2 g5 hQ hQ4 ne
    go_wp2_with (first
      | (apply SeqP.skip; rfl; simp only [Act.put, List.setIfInBounds_toArray, List.set_cons_zero, List.set_cons_succ])
      | (apply SeqP.call; rfl; rfl; (intro w2 hw; have hw := hTP _ hw; (skip); go_simp; exact ⟨rfl, rfl⟩); (intro w2 hw; have hw := hTP _ hw; (skip); (first | fail)); simp only [Act.put, List.setIfInBounds_toArray, List.set_cons_zero, List.set_cons_succ])
      | (apply SeqP.pure; rfl; (intro w2 hw; have hw := hTP _ hw; (skip); go_simp; with_reducible rfl); simp only [Act.put, List.setIfInBounds_toArray, List.set_cons_zero, List.set_cons_succ])
      | (apply SeqP.split; rfl; rfl; all_goals (intro hc; simp only [hc]; try simp only [beq_iff_eq, decide_eq_true_eq, beq_eq_false_iff_ne, decide_eq_false_iff_not, bne_iff_ne, ne_eq, Bool.not_eq_true', Bool.not_eq_false', Int.not_le, Int.not_lt, bne_eq_false_iff_eq, Bool.or_eq_true, Bool.and_eq_true, Bool.or_eq_false_iff] at hc)))
    apply SeqP.nil
    refine hKP _ _ (hTP' _ (P1)) ?_
    clear hKP hTP hTP'
    clear E0 E1 E2 G3 P1 hw3 HS HL3 HLE hz3 l3 lG lE1 lE0
    try clear w3
    have hz5 := hw5.size
    have r0 := P0.cell 0
    have lP0 := P0.lt
    have lPG := B5.lt
    simp [rgv] at r0
    by_cases hp : r.prom = 0
    · have hpb : (r.prom != 0) = false := by rw [bne_eq_false_iff_eq]; exact hp
      have HP := Lib.hid hp
      clear hp
      go_wp2_with ((with_reducible refine at_list ?_); refine wpList_load_blk_g 37 _ rfl rfl _ rfl _ _ _ (B5) Try.underlying37 rfl rg_info ?_)
      refine (rcheck15_any ⟨x.epoch, x.view, x.ents, x.len⟩ s2 w5 hs5).mono ?_
      rintro e w6 ⟨rfl, hb⟩
      have hw6 := below_trans hw5 hb hz5
      have Q2 := P2.keep hb
      have QG := B5.keep hb
      have hs6 := hs5.keep hb
      have hz6 := hw6.size
      clear hb P0 P2 B5 r0 hs5
      cases hm2 : mayR ⟨x.epoch, x.view, x.ents, x.len⟩ with
      | false =>
        have hN : applyR r x.s = none := by rw [HA.out, if_neg (fun h => by rw [hm2] at h; cases h.2)]
        have HN := Lib.hid hN
        clear hN hm2
        go_wp2_with ((with_reducible refine at_list ?_); first | refine wpList_load_blk rfl 37 _ rfl _ rfl _ _ _ (QG) Try.underlying37 rfl rg_info ?_ | (refine wpList_store_own rfl 37 _ _ rfl _ (rgv reg0 (none, 0, 0)) rfl rfl _ _ (Q2) rg_info rfl (rgv_one _ _) ?_; intro w8 B8 g8))
        have hw8 := hw6.trans (below_grown g8 (by omega) hz6)
        apply ret_of
        · exact results_blk_tmp rfl _ _ _ _ _ _ rfl (B8) Try.underlying37 rfl rg_info _ rfl
        · exact ⟨rfl, DocP.no HN.out rfl hw8⟩
      | true =>
        have hN : applyR r x.s = some ⟨x.epoch, x.view, x.ents, x.len⟩ := by rw [HA.out, if_pos ⟨HP.out, hm2⟩]
        have HN := Lib.hid hN
        clear hN hm2
        go_wp2_with ((with_reducible refine at_list ?_); first | refine wpList_load_blk rfl 37 _ rfl _ rfl _ _ _ (QG) Try.underlying37 rfl rg_info ?_ | (refine wpList_store_own rfl 37 _ _ rfl _ (rgv _ s2) rfl rfl _ _ (Q2) rg_info rfl (rgv_one _ _) ?_; intro w8 B8 g8))
        have hw8 := hw6.trans (below_grown g8 (by omega) hz6)
        have hs8 := hs6.stored Q2 (by simp [rgv]) g8
        apply ret_of
        · exact results_blk_tmp rfl _ _ _ _ _ _ rfl (B8) Try.underlying37 rfl rg_info _ rfl
        · exact ⟨rfl, DocP.yes HN.out s2 rfl hs8 hw8⟩
    · have hpb : (r.prom != 0) = true := by rw [bne_iff_ne]; exact hp
      have hN : applyR r x.s = none := by rw [HA.out, if_neg (fun h => hp h.1)]
      have HN := Lib.hid hN
      clear hN hp
      go_wp2_with ((with_reducible refine at_list ?_); first | refine wpList_load_blk rfl 37 _ rfl _ rfl _ _ _ (B5) Try.underlying37 rfl rg_info ?_ | (refine wpList_store_own rfl 37 _ _ rfl _ (rgv reg0 (none, 0, 0)) rfl rfl _ _ (P2) rg_info rfl (rgv_one _ _) ?_; intro w8 B8 g8))
      have hw8 := hw5.trans (below_grown g8 (by omega) hz5)
      apply ret_of
      · exact results_blk_tmp rfl _ _ _ _ _ _ rfl (B8) Try.underlying37 rfl rg_info _ rfl
      · exact ⟨rfl, DocP.no HN.out rfl hw8⟩
  have HN := Lib.hid (apply_else (r := r) (x := x.s) k1 k2 k3 k4)
  have b1 : (x.kind == 1) = false := by rw [beq_eq_false_iff_ne]; exact k1
  have b2 : (x.kind == 2) = false := by rw [beq_eq_false_iff_ne]; exact k2
  have b3 : (x.kind == 3) = false := by rw [beq_eq_false_iff_ne]; exact k3
  have b4 : (x.kind == 4) = false := by rw [beq_eq_false_iff_ne]; exact k4
  go_wp2_with ((with_reducible refine at_list ?_); (refine wpList_store_own rfl 37 _ _ rfl _ (rgv reg0 (none, 0, 0)) rfl rfl _ _ (E2) rg_info rfl (rgv_one _ _) ?_; intro w8 B8 g8))
  have hw8 := hw3.trans (below_grown g8 (by omega) hz3)
  apply ret_of
  · exact results_blk_tmp rfl _ _ _ _ _ _ rfl (B8) Try.underlying37 rfl rg_info _ rfl
  · exact ⟨rfl, DocP.no HN.out rfl hw8⟩

theorem doc_any (r : RegS) (sl : SlcE) (x : RecV) (w : World) (hl : LogAt w w.heap.size sl r.log) (hx : LogAt w w.heap.size x.es x.ents) (hx2 : x.ents.length ≤ 1000) :
    Calls Try.prog 73 #[.agg (rgv r sl).toArray, .agg (rcv x).toArray] w (DocP r x.s w) := by
  cases hm : mayR r with
  | false => exact doc_off r sl x w hm hl
  | true =>
    by_cases hk : x.kind = 2
    · exact doc_2 r sl x w hm hk hl hx hx2
    · exact doc_on r sl x w hm hk hl hx hx2
end Go.Proofs.Ytdphfhenjndkkaa

set_option linter.unusedSimpArgs false
set_option linter.unusedVariables false
set_option maxRecDepth 100000
namespace Go.Proofs.Ytdphfhenjndkkaa
open Go Go.RowKit Go.Sq Go.Wd Go.Arch Go.Im

/-- The boxes, the mail's entries, the book. -/
def DgI (w W : World) (r : RegS) (sl : SlcE) (x : MailV) (rb : Nat) (gr : Int) (E U : Nat → Int) : Prop := RpI w W r sl x ∧ LogAt W W.heap.size x.es x.m.ents ∧ RB W rb gr E U
theorem DgI.keep {w W W' : World} {r : RegS} {sl : SlcE} {x : MailV} {rb : Nat} {gr : Int} {E U : Nat → Int} (h : DgI w W r sl x rb gr E U) (hb : Below W.heap.size W W') : DgI w W' r sl x rb gr E U := ⟨h.1.keep hb, h.2.1.keep hb, Blk.keep h.2.2 hb⟩
/-- Beside them: the joined log, and the register that comes of it. -/
def DgJ (w W : World) (r : RegS) (sl : SlcE) (x : MailV) (rb : Nat) (gr : Int) (E U : Nat → Int) (J : List Ent) (sJ : SlcE) (g : Nat) : Prop :=
  DgI w W r sl x rb gr E U ∧ (LogAt W W.heap.size sJ J ∧ (0 < J.length → ∃ q, sJ.1 = some ⟨q, 0, none⟩) ∧ ∀ b o, sJ.1 = some ⟨b, o, none⟩ → b < g) ∧ Blk W g 37 (rgv r sl) ∧ w.heap.size + 1 < g
theorem DgJ.keep {w W W' : World} {r : RegS} {sl : SlcE} {x : MailV} {rb g : Nat} {gr : Int} {E U : Nat → Int} {J : List Ent} {sJ : SlcE} (h : DgJ w W r sl x rb gr E U J sJ g) (hb : Below W.heap.size W W') : DgJ w W' r sl x rb gr E U J sJ g :=
  ⟨h.1.keep hb, ⟨h.2.1.1.keep hb, h.2.1.2⟩, h.2.2.1.keep hb, h.2.2.2⟩

theorem DgJ.grown {w W W' : World} {r : RegS} {sl : SlcE} {x : MailV} {rb g k : Nat} {gr : Int} {E U : Nat → Int} {J : List Ent} {sJ : SlcE} (h : DgJ w W r sl x rb gr E U J sJ g) (hl : LogAt w w.heap.size sl r.log) (hx : LogAt w w.heap.size x.es x.m.ents) (hrb : rb < w.heap.size) (hg : W.grownBy W' (some k)) (hk : g < k) : DgJ w W' r sl x rb gr E U J sJ g := by
  obtain ⟨⟨⟨h1, h2, h3, h4⟩, h5, h6⟩, ⟨h7, h8⟩, h9, h10⟩ := h
  have hb : Below w.heap.size w W' := h1.trans (below_grown hg (by omega) h1.size)
  have ne : ∀ j, j ≠ k → some j ≠ some k := fun j h e => h (Option.some.inj e)
  refine ⟨⟨⟨hb, h2.grown hg (ne _ (by omega)), h3.grown hg (ne _ (by omega)), (hl.below hb).more hb.size⟩, (hx.below hb).more hb.size, Blk.grown h6 hg (ne _ (by omega))⟩, ⟨?_, h8⟩, h9.grown hg (ne _ (by omega)), h10⟩
  exact h7.apart (Nat.le_refl _) hg (fun b o e2 e3 => by have := h8.2 b o e2; omega)
/-- What the end of 'lay' wants. -/
def DyK (w W : World) (x : MailV) (g : Nat) (q : RegS) (s : SlcE) (v : Value) (xs : List RecV) (rb : Nat) (gr : Int) (E U : Nat → Int) : Prop :=
  Below w.heap.size w W ∧ Blk W (w.heap.size + 1) 43 (mailv x) ∧ RRow w.heap.size W v xs ∧ Blk W g 37 (rgv q s) ∧ RB W rb gr E U ∧ w.heap.size + 1 < g

end Go.Proofs.Ytdphfhenjndkkaa
