/-
  The walks over the document's 'log' and 'Check' of registers.
-/
import Derived.Test.YtbicefilfhcgoaaRegChk
set_option linter.unusedSimpArgs false
set_option linter.unusedVariables false
set_option maxRecDepth 100000
namespace Go.Proofs.Ytbicefilfhcgoaa
open Go Go.RowKit Go.Sq Go.Wd Go.Arch

set_option maxHeartbeats 2000000 in
theorem rmay09_any (x0 x1 x2 x3 x4 : Int) (w : World) :
    Calls Try.prog 66 #[.agg #[.int .i64 x0, .int .i64 x1, .int .i64 x2, .int .i64 x3, .int .i64 x4]] w fun e w' => e = .returned (.bool (ordOk ⟨x0, x1, x2, x3, x4⟩)) ∧ Below w.heap.size w w' := by
  go_enter Try.func66, Try.ntmps66
  go_wp2
  all_goals (go_ret; refine ⟨ret_bool ?_, by (repeat (first | with_reducible apply Below.drew | with_reducible refine Below.setCell ?_ (by first | exact Nat.le_refl _ | (simp; done) | (simp; omega) | omega) _ | with_reducible refine Below.alloc ?_ (by first | exact Nat.le_refl _ | (simp; done) | (simp; omega) | omega) _ | with_reducible exact Below.refl _ _ | with_reducible assumption))⟩)
  all_goals (try simp only [beq_iff_eq, decide_eq_true_eq, beq_eq_false_iff_ne, decide_eq_false_iff_not, bne_iff_ne, ne_eq, Bool.not_eq_true', Bool.not_eq_false', Int.not_le, Int.not_lt, not_false_eq_true, bne_eq_false_iff_eq] at *)
  all_goals (rw [Bool.eq_iff_iff]; simp [ordOk] at *; (try simp [*]); (first | done | omega))
theorem rcheck09_any (x0 x1 x2 x3 x4 : Int) (w : World) :
    Calls Try.prog 59 #[.agg #[.int .i64 x0, .int .i64 x1, .int .i64 x2, .int .i64 x3, .int .i64 x4]] w fun e w' => e = .returned (.int .i64 (errOf (ordOk ⟨x0, x1, x2, x3, x4⟩))) ∧ Below w.heap.size w w' := by
  have hw := Below.refl w.heap.size w
  go_enter Try.func59, Try.ntmps59
  go_wp2_with fail
  refine (rmay09_any _ _ _ _ _ _).mono ?_
  rintro e w1 ⟨rfl, hb⟩
  have hw1 := below_trans (hw.alloc (Nat.le_refl _) _) hb (by simp)
  clear hb
  cases hO : ordOk ⟨x0, x1, x2, x3, x4⟩ with
  | false =>
    have HN := Lib.hid hO
    go_wp2_with fail
    go_ret
    rw [HN.out]
    exact ⟨rfl, hw1⟩
  | true =>
    have HN := Lib.hid hO
    go_wp2_with fail
    go_ret
    rw [HN.out]
    exact ⟨rfl, hw1⟩

theorem okLog_fall {l : List Ent} {v : Int} {i : Nat} {x y : Ent} (hx : l[i]? = some x) (hy : l[i + 1]? = some y) (h : y.1 < x.1) : okLog l v = false := by
  cases hb : okLog l v
  · rfl
  · have := ((okLog_iff l v).1 hb).2.2
    rw [rises_no hx hy h] at this
    cases this

set_option maxHeartbeats 4000000 in
theorem rlog_any (l : List Ent) (A : Option Addr) (c : Nat) (v : Int) (w : World) (ha : Ents w w.heap.size A l) (hl : l.length ≤ 9223372036854775807) :
    Calls Try.prog 48 #[.slice A l.length c, .int .i64 v] w fun e w' => e = .returned (.bool (okLog l v)) ∧ Below w.heap.size w w' := by
  have hw := Below.refl w.heap.size w
  have HE := Lib.hid ha
  clear ha
  by_cases h64 : 64 < l.length
  · have HN := Lib.hid (okLog_long (v := v) h64)
    go_enter Try.func48, Try.ntmps48
    go_wp2_with fail
    go_ret
    rw [HN.out]
    exact ⟨rfl, hw⟩
  have h64' : l.length ≤ 64 := by omega
  go_enter Try.func48, Try.ntmps48
  go_wp2_with fail
  go_loopg [5] l.length (fun q i wr => ∃ (j : Nat), q = l.length - j ∧ j ≤ l.length ∧ i = .int .i64 j ∧ ((∀ e ∈ l.take j, okEnt v e = true) ∧ (∀ i x y, i + 1 < j → l[i]? = some x → l[i + 1]? = some y → x.1 ≤ y.1)) ∧ Below w.heap.size w wr)
  case atStart => exact ⟨0, rfl, by omega, rfl, ⟨by simp, fun i _ _ h => absurd h (by omega)⟩, hw⟩
  case round =>
    clear hw
    obtain ⟨j, hq, hj, rfl, ht, hB⟩ := hrel
    have AA : Aside (gk = l.length - j ∧ (∀ e ∈ l.take j, okEnt v e = true) ∧ (∀ i x y, i + 1 < j → l[i]? = some x → l[i + 1]? = some y → x.1 ≤ y.1)) := ⟨hq, ht⟩
    clear hq ht
    by_cases hlt : j < l.length
    · obtain ⟨b1, o1, x, rfl, hx, FA⟩ := HE.out.at_ hlt
      have hz := hB.size
      have hbad : Hid (∀ b : Bool, b = false → (x.1 < 1 ∨ v < x.1 ∨ (∃ y, 0 < j ∧ l[j - 1]? = some y ∧ x.1 < y.1)) → okLog l v = b) := Lib.hid (fun b hb h => by
        subst hb
        rcases h with h | h | ⟨y, h0, hy, h⟩
        · exact okLog_no hx.out (okEnt_no (.inl (by omega)))
        · exact okLog_no hx.out (okEnt_no (.inl (by omega)))
        · exact okLog_fall hy (by rw [Nat.sub_add_cancel h0]; exact hx.out) h)
      by_cases h1 : x.1 < 1
      · have HN := Lib.hid (hbad.out false rfl (.inl h1))
        clear hbad
        go_wp2_with fail
        refine wp_region_p ([(0, true), (1, true), (2, true), (3, true), (4, true), (5, true), (6, true), (7, true), (8, true), (9, true), (10, true), (11, true), (12, true), (13, true), (14, true), (15, true), (16, true), (17, true), (18, true), (19, true), (20, true), (21, true), (22, true), (23, true), (24, true), (25, true), (26, true), (27, true), (28, true), (29, true), (30, true), (31, true), (32, true), (33, true), (34, true), (35, true), (36, true), (37, true), (38, true), (39, false), (40, true), (41, true)]) (fun w' => Below w.heap.size w w') (by kernel_rfl) rfl (by kernel_rfl) (by kernel_rfl) (hB.drew) rfl ?_
        intro KP RP TP hKP hTP hTP'
        simp only [pick, nth]
        go_wp2_with (first
          | (apply SeqP.skip; rfl; simp only [Act.put, List.setIfInBounds_toArray, List.set_cons_zero, List.set_cons_succ])
          | (apply SeqP.call; rfl; rfl; (intro w2 hw; have hw := hTP _ hw; ((obtain ⟨q0, q1, q2, q3, q4, q5⟩ := FA _ hw)); go_simp; exact ⟨rfl, rfl⟩); (intro w2 hw; have hw := hTP _ hw; ((obtain ⟨q0, q1, q2, q3, q4, q5⟩ := FA _ hw)); (first | fail)); simp only [Act.put, List.setIfInBounds_toArray, List.set_cons_zero, List.set_cons_succ])
          | (apply SeqP.pure; rfl; (intro w2 hw; have hw := hTP _ hw; ((obtain ⟨q0, q1, q2, q3, q4, q5⟩ := FA _ hw)); go_simp; with_reducible rfl); simp only [Act.put, List.setIfInBounds_toArray, List.set_cons_zero, List.set_cons_succ])
          | (apply SeqP.split; rfl; rfl; all_goals (intro hc; simp only [hc]; try simp only [beq_iff_eq, decide_eq_true_eq, beq_eq_false_iff_ne, decide_eq_false_iff_not, bne_iff_ne, ne_eq, Bool.not_eq_true', Bool.not_eq_false', Int.not_le, Int.not_lt, bne_eq_false_iff_eq, Bool.or_eq_true, Bool.and_eq_true, Bool.or_eq_false_iff] at hc)))
        apply SeqP.skip_eff
        · rfl
        · exact hTP' _ (hB.drew)
        (try simp only [Act.put, List.setIfInBounds_toArray, List.set_cons_zero, List.set_cons_succ])
        go_wp2_with (first
          | (apply SeqP.skip; rfl; simp only [Act.put, List.setIfInBounds_toArray, List.set_cons_zero, List.set_cons_succ])
          | (apply SeqP.call; rfl; rfl; (intro w2 hw; have hw := hTP _ hw; ((obtain ⟨q0, q1, q2, q3, q4, q5⟩ := FA _ hw)); go_simp; exact ⟨rfl, rfl⟩); (intro w2 hw; have hw := hTP _ hw; ((obtain ⟨q0, q1, q2, q3, q4, q5⟩ := FA _ hw)); (first | fail)); simp only [Act.put, List.setIfInBounds_toArray, List.set_cons_zero, List.set_cons_succ])
          | (apply SeqP.pure; rfl; (intro w2 hw; have hw := hTP _ hw; ((obtain ⟨q0, q1, q2, q3, q4, q5⟩ := FA _ hw)); go_simp; with_reducible rfl); simp only [Act.put, List.setIfInBounds_toArray, List.set_cons_zero, List.set_cons_succ])
          | (apply SeqP.split; rfl; rfl; all_goals (intro hc; simp only [hc]; try simp only [beq_iff_eq, decide_eq_true_eq, beq_eq_false_iff_ne, decide_eq_false_iff_not, bne_iff_ne, ne_eq, Bool.not_eq_true', Bool.not_eq_false', Int.not_le, Int.not_lt, bne_eq_false_iff_eq, Bool.or_eq_true, Bool.and_eq_true, Bool.or_eq_false_iff] at hc)))
        apply SeqP.nil
        refine hKP _ _ (hTP' _ (hB.drew)) ?_
        clear hKP hTP hTP'
        go_wp2_with fail
        go_ret
        rw [HN.out]
        exact ⟨rfl, hB.drew⟩
      by_cases h2 : v < x.1
      · have HN := Lib.hid (hbad.out false rfl (.inr (.inl h2)))
        clear hbad
        go_wp2_with fail
        refine wp_region_p ([(0, true), (1, true), (2, true), (3, true), (4, true), (5, true), (6, true), (7, true), (8, true), (9, true), (10, true), (11, true), (12, true), (13, true), (14, true), (15, true), (16, true), (17, true), (18, true), (19, true), (20, true), (21, true), (22, true), (23, true), (24, true), (25, true), (26, true), (27, true), (28, true), (29, true), (30, true), (31, true), (32, true), (33, true), (34, true), (35, true), (36, true), (37, true), (38, true), (39, false), (40, true), (41, true)]) (fun w' => Below w.heap.size w w') (by kernel_rfl) rfl (by kernel_rfl) (by kernel_rfl) (hB.drew) rfl ?_
        intro KP RP TP hKP hTP hTP'
        simp only [pick, nth]
        go_wp2_with (first
          | (apply SeqP.skip; rfl; simp only [Act.put, List.setIfInBounds_toArray, List.set_cons_zero, List.set_cons_succ])
          | (apply SeqP.call; rfl; rfl; (intro w2 hw; have hw := hTP _ hw; ((obtain ⟨q0, q1, q2, q3, q4, q5⟩ := FA _ hw)); go_simp; exact ⟨rfl, rfl⟩); (intro w2 hw; have hw := hTP _ hw; ((obtain ⟨q0, q1, q2, q3, q4, q5⟩ := FA _ hw)); (first | fail)); simp only [Act.put, List.setIfInBounds_toArray, List.set_cons_zero, List.set_cons_succ])
          | (apply SeqP.pure; rfl; (intro w2 hw; have hw := hTP _ hw; ((obtain ⟨q0, q1, q2, q3, q4, q5⟩ := FA _ hw)); go_simp; with_reducible rfl); simp only [Act.put, List.setIfInBounds_toArray, List.set_cons_zero, List.set_cons_succ])
          | (apply SeqP.split; rfl; rfl; all_goals (intro hc; simp only [hc]; try simp only [beq_iff_eq, decide_eq_true_eq, beq_eq_false_iff_ne, decide_eq_false_iff_not, bne_iff_ne, ne_eq, Bool.not_eq_true', Bool.not_eq_false', Int.not_le, Int.not_lt, bne_eq_false_iff_eq, Bool.or_eq_true, Bool.and_eq_true, Bool.or_eq_false_iff] at hc)))
        all_goals first | (exfalso; omega) | skip
        apply SeqP.skip_eff
        · rfl
        · exact hTP' _ (hB.drew)
        (try simp only [Act.put, List.setIfInBounds_toArray, List.set_cons_zero, List.set_cons_succ])
        go_wp2_with (first
          | (apply SeqP.skip; rfl; simp only [Act.put, List.setIfInBounds_toArray, List.set_cons_zero, List.set_cons_succ])
          | (apply SeqP.call; rfl; rfl; (intro w2 hw; have hw := hTP _ hw; ((obtain ⟨q0, q1, q2, q3, q4, q5⟩ := FA _ hw)); go_simp; exact ⟨rfl, rfl⟩); (intro w2 hw; have hw := hTP _ hw; ((obtain ⟨q0, q1, q2, q3, q4, q5⟩ := FA _ hw)); (first | fail)); simp only [Act.put, List.setIfInBounds_toArray, List.set_cons_zero, List.set_cons_succ])
          | (apply SeqP.pure; rfl; (intro w2 hw; have hw := hTP _ hw; ((obtain ⟨q0, q1, q2, q3, q4, q5⟩ := FA _ hw)); go_simp; with_reducible rfl); simp only [Act.put, List.setIfInBounds_toArray, List.set_cons_zero, List.set_cons_succ])
          | (apply SeqP.split; rfl; rfl; all_goals (intro hc; simp only [hc]; try simp only [beq_iff_eq, decide_eq_true_eq, beq_eq_false_iff_ne, decide_eq_false_iff_not, bne_iff_ne, ne_eq, Bool.not_eq_true', Bool.not_eq_false', Int.not_le, Int.not_lt, bne_eq_false_iff_eq, Bool.or_eq_true, Bool.and_eq_true, Bool.or_eq_false_iff] at hc)))
        all_goals first | (exfalso; omega) | skip
        apply SeqP.nil
        refine hKP _ _ (hTP' _ (hB.drew)) ?_
        clear hKP hTP hTP'
        go_wp2_with fail
        go_ret
        rw [HN.out]
        exact ⟨rfl, hB.drew⟩
      rcases Nat.eq_zero_or_pos j with h0 | h0
      · have hj0 : ¬ (0 : Int) < (j : Int) := by omega
        have HR : Hid (∀ i y z, i + 1 < j + 1 → l[i]? = some y → l[i + 1]? = some z → y.1 ≤ z.1) := Lib.hid (fun i y z hi _ _ => absurd hi (by omega))
        clear hbad h0
        go_wp2_with fail
        refine wp_region_p ([(0, true), (1, true), (2, true), (3, true), (4, true), (5, true), (6, true), (7, true), (8, true), (9, true), (10, true), (11, true), (12, true), (13, true), (14, true), (15, true), (16, true), (17, true), (18, true), (19, true), (20, true), (21, true), (22, true), (23, true), (24, true), (25, true), (26, true), (27, true), (28, true), (29, true), (30, true), (31, true), (32, true), (33, true), (34, true), (35, true), (36, true), (37, true), (38, true), (39, false), (40, true), (41, true)]) (fun w' => Below w.heap.size w w') (by kernel_rfl) rfl (by kernel_rfl) (by kernel_rfl) (hB.drew) rfl ?_
        intro KP RP TP hKP hTP hTP'
        simp only [pick, nth]
        go_wp2_with (first
          | (apply SeqP.skip; rfl; simp only [Act.put, List.setIfInBounds_toArray, List.set_cons_zero, List.set_cons_succ])
          | (apply SeqP.call; rfl; rfl; (intro w2 hw; have hw := hTP _ hw; ((obtain ⟨q0, q1, q2, q3, q4, q5⟩ := FA _ hw)); go_simp; exact ⟨rfl, rfl⟩); (intro w2 hw; have hw := hTP _ hw; ((obtain ⟨q0, q1, q2, q3, q4, q5⟩ := FA _ hw)); (first | fail)); simp only [Act.put, List.setIfInBounds_toArray, List.set_cons_zero, List.set_cons_succ])
          | (apply SeqP.pure; rfl; (intro w2 hw; have hw := hTP _ hw; ((obtain ⟨q0, q1, q2, q3, q4, q5⟩ := FA _ hw)); go_simp; with_reducible rfl); simp only [Act.put, List.setIfInBounds_toArray, List.set_cons_zero, List.set_cons_succ])
          | (apply SeqP.split; rfl; rfl; all_goals (intro hc; simp only [hc]; try simp only [beq_iff_eq, decide_eq_true_eq, beq_eq_false_iff_ne, decide_eq_false_iff_not, bne_iff_ne, ne_eq, Bool.not_eq_true', Bool.not_eq_false', Int.not_le, Int.not_lt, bne_eq_false_iff_eq, Bool.or_eq_true, Bool.and_eq_true, Bool.or_eq_false_iff] at hc)))
        all_goals first | (exfalso; omega) | skip
        apply SeqP.eff
        · rfl
        intro KE hKE
        go_wp2_with fail
        refine (rcheck09_any _ _ _ _ _ _).mono ?_
        rintro e w1 ⟨rfl, hb⟩
        have hB1 := below_trans hB.drew hb hz
        refine hKE _ _ (hTP' _ hB1) ?_
        clear hKE KE hb
        cases hO : ordOk ⟨x.2.1, x.2.2.1, x.2.2.2.1, x.2.2.2.2.1, x.2.2.2.2.2⟩ with
        | false =>
          have HN := Lib.hid (okLog_no hx.out (okEnt_no (v := v) (.inr hO)))
          simp only [errOf]
          go_wp2_with (first
            | (apply SeqP.skip; rfl; simp only [Act.put, List.setIfInBounds_toArray, List.set_cons_zero, List.set_cons_succ])
            | (apply SeqP.call; rfl; rfl; (intro w2 hw; have hw := hTP _ hw; ((obtain ⟨q0, q1, q2, q3, q4, q5⟩ := FA _ hw)); go_simp; exact ⟨rfl, rfl⟩); (intro w2 hw; have hw := hTP _ hw; ((obtain ⟨q0, q1, q2, q3, q4, q5⟩ := FA _ hw)); (first | fail)); simp only [Act.put, List.setIfInBounds_toArray, List.set_cons_zero, List.set_cons_succ])
            | (apply SeqP.pure; rfl; (intro w2 hw; have hw := hTP _ hw; ((obtain ⟨q0, q1, q2, q3, q4, q5⟩ := FA _ hw)); go_simp; with_reducible rfl); simp only [Act.put, List.setIfInBounds_toArray, List.set_cons_zero, List.set_cons_succ])
            | (apply SeqP.split; rfl; rfl; all_goals (intro hc; simp only [hc]; try simp only [beq_iff_eq, decide_eq_true_eq, beq_eq_false_iff_ne, decide_eq_false_iff_not, bne_iff_ne, ne_eq, Bool.not_eq_true', Bool.not_eq_false', Int.not_le, Int.not_lt, bne_eq_false_iff_eq, Bool.or_eq_true, Bool.and_eq_true, Bool.or_eq_false_iff] at hc)))
          all_goals first | (exfalso; omega) | skip
          apply SeqP.nil
          refine hKP _ _ (hTP' _ (hB1)) ?_
          clear hKP hTP hTP'
          go_wp2_with fail
          go_ret
          rw [HN.out]
          exact ⟨rfl, hB1⟩
        | true =>
          have HT : Hid ((∀ e ∈ l.take (j + 1), okEnt v e = true) ∧ (∀ i x y, i + 1 < j + 1 → l[i]? = some x → l[i + 1]? = some y → x.1 ≤ y.1)) := Lib.hid ⟨fun e he => by
            rw [List.take_add_one, hx.out] at he
            rcases List.mem_append.1 he with he | he
            · exact AA.out.2.1 e he
            · obtain rfl : e = x := by simpa using he
              unfold okEnt
              have hO' : ordOk (ordE e) = true := hO
              rw [hO', decide_eq_true (by omega)]
              rfl, fun i y z hi hy hz => HR.out i y z hi hy hz⟩
          simp only [errOf]
          go_wp2_with (first
            | (apply SeqP.skip; rfl; simp only [Act.put, List.setIfInBounds_toArray, List.set_cons_zero, List.set_cons_succ])
            | (apply SeqP.call; rfl; rfl; (intro w2 hw; have hw := hTP _ hw; ((obtain ⟨q0, q1, q2, q3, q4, q5⟩ := FA _ hw)); go_simp; exact ⟨rfl, rfl⟩); (intro w2 hw; have hw := hTP _ hw; ((obtain ⟨q0, q1, q2, q3, q4, q5⟩ := FA _ hw)); (first | fail)); simp only [Act.put, List.setIfInBounds_toArray, List.set_cons_zero, List.set_cons_succ])
            | (apply SeqP.pure; rfl; (intro w2 hw; have hw := hTP _ hw; ((obtain ⟨q0, q1, q2, q3, q4, q5⟩ := FA _ hw)); go_simp; with_reducible rfl); simp only [Act.put, List.setIfInBounds_toArray, List.set_cons_zero, List.set_cons_succ])
            | (apply SeqP.split; rfl; rfl; all_goals (intro hc; simp only [hc]; try simp only [beq_iff_eq, decide_eq_true_eq, beq_eq_false_iff_ne, decide_eq_false_iff_not, bne_iff_ne, ne_eq, Bool.not_eq_true', Bool.not_eq_false', Int.not_le, Int.not_lt, bne_eq_false_iff_eq, Bool.or_eq_true, Bool.and_eq_true, Bool.or_eq_false_iff] at hc)))
          all_goals first | (exfalso; omega) | skip
          apply SeqP.nil
          refine hKP _ _ (hTP' _ (hB1)) ?_
          clear hKP hTP hTP'
          go_wp2_with fail
          go_roundg (l.length - (j + 1))
          case measure => have hkk := AA.out.1; omega
          case rel => exact ⟨j + 1, rfl, by omega, by go_num, HT.out, hB1⟩
      have hj0 : (0 : Int) < (j : Int) := by omega
      have hj1 : j - 1 < l.length := by omega
      have wj : IntKind.i64.wrap ((j : Int) - 1) = ((j - 1 : Nat) : Int) := by rw [IntWalk.i64_in _ (by omega)]; omega
      have wj2 : wrap64 ((j : Int) - 1) = ((j - 1 : Nat) : Int) := by unfold wrap64; omega
      obtain ⟨b2, o2, y, hA2, hy, FY⟩ := HE.out.at_ hj1
      cases hA2
      by_cases h3 : x.1 < y.1
      · have HN := Lib.hid (hbad.out false rfl (.inr (.inr ⟨y, h0, hy.out, h3⟩)))
        clear hbad
        go_wp2_with fail
        refine wp_region_p ([(0, true), (1, true), (2, true), (3, true), (4, true), (5, true), (6, true), (7, true), (8, true), (9, true), (10, true), (11, true), (12, true), (13, true), (14, true), (15, true), (16, true), (17, true), (18, true), (19, true), (20, true), (21, true), (22, true), (23, true), (24, true), (25, true), (26, true), (27, true), (28, true), (29, true), (30, true), (31, true), (32, true), (33, true), (34, true), (35, true), (36, true), (37, true), (38, true), (39, false), (40, true), (41, true)]) (fun w' => Below w.heap.size w w') (by kernel_rfl) rfl (by kernel_rfl) (by kernel_rfl) (hB.drew) rfl ?_
        intro KP RP TP hKP hTP hTP'
        simp only [pick, nth]
        go_wp2_with (first
          | (apply SeqP.skip; rfl; simp only [Act.put, List.setIfInBounds_toArray, List.set_cons_zero, List.set_cons_succ])
          | (apply SeqP.call; rfl; rfl; (intro w2 hw; have hw := hTP _ hw; ((obtain ⟨q0, q1, q2, q3, q4, q5⟩ := FA _ hw; obtain ⟨p0, p1, p2, p3, p4, p5⟩ := FY _ hw)); go_simp; exact ⟨rfl, rfl⟩); (intro w2 hw; have hw := hTP _ hw; ((obtain ⟨q0, q1, q2, q3, q4, q5⟩ := FA _ hw; obtain ⟨p0, p1, p2, p3, p4, p5⟩ := FY _ hw)); (first | fail)); simp only [Act.put, List.setIfInBounds_toArray, List.set_cons_zero, List.set_cons_succ])
          | (apply SeqP.pure; rfl; (intro w2 hw; have hw := hTP _ hw; ((obtain ⟨q0, q1, q2, q3, q4, q5⟩ := FA _ hw; obtain ⟨p0, p1, p2, p3, p4, p5⟩ := FY _ hw)); go_simp; with_reducible rfl); simp only [Act.put, List.setIfInBounds_toArray, List.set_cons_zero, List.set_cons_succ])
          | (apply SeqP.split; rfl; rfl; all_goals (intro hc; simp only [hc]; try simp only [beq_iff_eq, decide_eq_true_eq, beq_eq_false_iff_ne, decide_eq_false_iff_not, bne_iff_ne, ne_eq, Bool.not_eq_true', Bool.not_eq_false', Int.not_le, Int.not_lt, bne_eq_false_iff_eq, Bool.or_eq_true, Bool.and_eq_true, Bool.or_eq_false_iff] at hc)))
        all_goals first | (exfalso; omega) | skip
        apply SeqP.skip_eff
        · rfl
        · exact hTP' _ (hB.drew)
        (try simp only [Act.put, List.setIfInBounds_toArray, List.set_cons_zero, List.set_cons_succ])
        go_wp2_with (first
          | (apply SeqP.skip; rfl; simp only [Act.put, List.setIfInBounds_toArray, List.set_cons_zero, List.set_cons_succ])
          | (apply SeqP.call; rfl; rfl; (intro w2 hw; have hw := hTP _ hw; ((obtain ⟨q0, q1, q2, q3, q4, q5⟩ := FA _ hw; obtain ⟨p0, p1, p2, p3, p4, p5⟩ := FY _ hw)); go_simp; exact ⟨rfl, rfl⟩); (intro w2 hw; have hw := hTP _ hw; ((obtain ⟨q0, q1, q2, q3, q4, q5⟩ := FA _ hw; obtain ⟨p0, p1, p2, p3, p4, p5⟩ := FY _ hw)); (first | fail)); simp only [Act.put, List.setIfInBounds_toArray, List.set_cons_zero, List.set_cons_succ])
          | (apply SeqP.pure; rfl; (intro w2 hw; have hw := hTP _ hw; ((obtain ⟨q0, q1, q2, q3, q4, q5⟩ := FA _ hw; obtain ⟨p0, p1, p2, p3, p4, p5⟩ := FY _ hw)); go_simp; with_reducible rfl); simp only [Act.put, List.setIfInBounds_toArray, List.set_cons_zero, List.set_cons_succ])
          | (apply SeqP.split; rfl; rfl; all_goals (intro hc; simp only [hc]; try simp only [beq_iff_eq, decide_eq_true_eq, beq_eq_false_iff_ne, decide_eq_false_iff_not, bne_iff_ne, ne_eq, Bool.not_eq_true', Bool.not_eq_false', Int.not_le, Int.not_lt, bne_eq_false_iff_eq, Bool.or_eq_true, Bool.and_eq_true, Bool.or_eq_false_iff] at hc)))
        all_goals first | (exfalso; omega) | skip
        apply SeqP.nil
        refine hKP _ _ (hTP' _ (hB.drew)) ?_
        clear hKP hTP hTP'
        go_wp2_with fail
        go_ret
        rw [HN.out]
        exact ⟨rfl, hB.drew⟩
      · have HR : Hid (∀ i y z, i + 1 < j + 1 → l[i]? = some y → l[i + 1]? = some z → y.1 ≤ z.1) := Lib.hid (fun i y' z hi hy' hz' => by
          rcases Nat.lt_or_ge (i + 1) j with h | h
          · exact AA.out.2.2 i y' z h hy' hz'
          · obtain rfl : j = i + 1 := by omega
            have e1 := hy.out
            have e2 := hx.out
            rw [Nat.add_sub_cancel, hy'] at e1
            rw [hz'] at e2
            cases e1
            cases e2
            omega)
        clear hbad
        go_wp2_with fail
        refine wp_region_p ([(0, true), (1, true), (2, true), (3, true), (4, true), (5, true), (6, true), (7, true), (8, true), (9, true), (10, true), (11, true), (12, true), (13, true), (14, true), (15, true), (16, true), (17, true), (18, true), (19, true), (20, true), (21, true), (22, true), (23, true), (24, true), (25, true), (26, true), (27, true), (28, true), (29, true), (30, true), (31, true), (32, true), (33, true), (34, true), (35, true), (36, true), (37, true), (38, true), (39, false), (40, true), (41, true)]) (fun w' => Below w.heap.size w w') (by kernel_rfl) rfl (by kernel_rfl) (by kernel_rfl) (hB.drew) rfl ?_
        intro KP RP TP hKP hTP hTP'
        simp only [pick, nth]
        go_wp2_with (first
          | (apply SeqP.skip; rfl; simp only [Act.put, List.setIfInBounds_toArray, List.set_cons_zero, List.set_cons_succ])
          | (apply SeqP.call; rfl; rfl; (intro w2 hw; have hw := hTP _ hw; ((obtain ⟨q0, q1, q2, q3, q4, q5⟩ := FA _ hw; obtain ⟨p0, p1, p2, p3, p4, p5⟩ := FY _ hw)); go_simp; exact ⟨rfl, rfl⟩); (intro w2 hw; have hw := hTP _ hw; ((obtain ⟨q0, q1, q2, q3, q4, q5⟩ := FA _ hw; obtain ⟨p0, p1, p2, p3, p4, p5⟩ := FY _ hw)); (first | fail)); simp only [Act.put, List.setIfInBounds_toArray, List.set_cons_zero, List.set_cons_succ])
          | (apply SeqP.pure; rfl; (intro w2 hw; have hw := hTP _ hw; ((obtain ⟨q0, q1, q2, q3, q4, q5⟩ := FA _ hw; obtain ⟨p0, p1, p2, p3, p4, p5⟩ := FY _ hw)); go_simp; with_reducible rfl); simp only [Act.put, List.setIfInBounds_toArray, List.set_cons_zero, List.set_cons_succ])
          | (apply SeqP.split; rfl; rfl; all_goals (intro hc; simp only [hc]; try simp only [beq_iff_eq, decide_eq_true_eq, beq_eq_false_iff_ne, decide_eq_false_iff_not, bne_iff_ne, ne_eq, Bool.not_eq_true', Bool.not_eq_false', Int.not_le, Int.not_lt, bne_eq_false_iff_eq, Bool.or_eq_true, Bool.and_eq_true, Bool.or_eq_false_iff] at hc)))
        all_goals first | (exfalso; omega) | skip
        apply SeqP.eff
        · rfl
        intro KE hKE
        go_wp2_with fail
        refine (rcheck09_any _ _ _ _ _ _).mono ?_
        rintro e w1 ⟨rfl, hb⟩
        have hB1 := below_trans hB.drew hb hz
        refine hKE _ _ (hTP' _ hB1) ?_
        clear hKE KE hb
        cases hO : ordOk ⟨x.2.1, x.2.2.1, x.2.2.2.1, x.2.2.2.2.1, x.2.2.2.2.2⟩ with
        | false =>
          have HN := Lib.hid (okLog_no hx.out (okEnt_no (v := v) (.inr hO)))
          simp only [errOf]
          go_wp2_with (first
            | (apply SeqP.skip; rfl; simp only [Act.put, List.setIfInBounds_toArray, List.set_cons_zero, List.set_cons_succ])
            | (apply SeqP.call; rfl; rfl; (intro w2 hw; have hw := hTP _ hw; ((obtain ⟨q0, q1, q2, q3, q4, q5⟩ := FA _ hw; obtain ⟨p0, p1, p2, p3, p4, p5⟩ := FY _ hw)); go_simp; exact ⟨rfl, rfl⟩); (intro w2 hw; have hw := hTP _ hw; ((obtain ⟨q0, q1, q2, q3, q4, q5⟩ := FA _ hw; obtain ⟨p0, p1, p2, p3, p4, p5⟩ := FY _ hw)); (first | fail)); simp only [Act.put, List.setIfInBounds_toArray, List.set_cons_zero, List.set_cons_succ])
            | (apply SeqP.pure; rfl; (intro w2 hw; have hw := hTP _ hw; ((obtain ⟨q0, q1, q2, q3, q4, q5⟩ := FA _ hw; obtain ⟨p0, p1, p2, p3, p4, p5⟩ := FY _ hw)); go_simp; with_reducible rfl); simp only [Act.put, List.setIfInBounds_toArray, List.set_cons_zero, List.set_cons_succ])
            | (apply SeqP.split; rfl; rfl; all_goals (intro hc; simp only [hc]; try simp only [beq_iff_eq, decide_eq_true_eq, beq_eq_false_iff_ne, decide_eq_false_iff_not, bne_iff_ne, ne_eq, Bool.not_eq_true', Bool.not_eq_false', Int.not_le, Int.not_lt, bne_eq_false_iff_eq, Bool.or_eq_true, Bool.and_eq_true, Bool.or_eq_false_iff] at hc)))
          all_goals first | (exfalso; omega) | skip
          apply SeqP.nil
          refine hKP _ _ (hTP' _ (hB1)) ?_
          clear hKP hTP hTP'
          go_wp2_with fail
          go_ret
          rw [HN.out]
          exact ⟨rfl, hB1⟩
        | true =>
          have HT : Hid ((∀ e ∈ l.take (j + 1), okEnt v e = true) ∧ (∀ i x y, i + 1 < j + 1 → l[i]? = some x → l[i + 1]? = some y → x.1 ≤ y.1)) := Lib.hid ⟨fun e he => by
            rw [List.take_add_one, hx.out] at he
            rcases List.mem_append.1 he with he | he
            · exact AA.out.2.1 e he
            · obtain rfl : e = x := by simpa using he
              unfold okEnt
              have hO' : ordOk (ordE e) = true := hO
              rw [hO', decide_eq_true (by omega)]
              rfl, fun i y z hi hy hz => HR.out i y z hi hy hz⟩
          simp only [errOf]
          go_wp2_with (first
            | (apply SeqP.skip; rfl; simp only [Act.put, List.setIfInBounds_toArray, List.set_cons_zero, List.set_cons_succ])
            | (apply SeqP.call; rfl; rfl; (intro w2 hw; have hw := hTP _ hw; ((obtain ⟨q0, q1, q2, q3, q4, q5⟩ := FA _ hw; obtain ⟨p0, p1, p2, p3, p4, p5⟩ := FY _ hw)); go_simp; exact ⟨rfl, rfl⟩); (intro w2 hw; have hw := hTP _ hw; ((obtain ⟨q0, q1, q2, q3, q4, q5⟩ := FA _ hw; obtain ⟨p0, p1, p2, p3, p4, p5⟩ := FY _ hw)); (first | fail)); simp only [Act.put, List.setIfInBounds_toArray, List.set_cons_zero, List.set_cons_succ])
            | (apply SeqP.pure; rfl; (intro w2 hw; have hw := hTP _ hw; ((obtain ⟨q0, q1, q2, q3, q4, q5⟩ := FA _ hw; obtain ⟨p0, p1, p2, p3, p4, p5⟩ := FY _ hw)); go_simp; with_reducible rfl); simp only [Act.put, List.setIfInBounds_toArray, List.set_cons_zero, List.set_cons_succ])
            | (apply SeqP.split; rfl; rfl; all_goals (intro hc; simp only [hc]; try simp only [beq_iff_eq, decide_eq_true_eq, beq_eq_false_iff_ne, decide_eq_false_iff_not, bne_iff_ne, ne_eq, Bool.not_eq_true', Bool.not_eq_false', Int.not_le, Int.not_lt, bne_eq_false_iff_eq, Bool.or_eq_true, Bool.and_eq_true, Bool.or_eq_false_iff] at hc)))
          all_goals first | (exfalso; omega) | skip
          apply SeqP.nil
          refine hKP _ _ (hTP' _ (hB1)) ?_
          clear hKP hTP hTP'
          go_wp2_with fail
          go_roundg (l.length - (j + 1))
          case measure => have hkk := AA.out.1; omega
          case rel => exact ⟨j + 1, rfl, by omega, by go_num, HT.out, hB1⟩
    · obtain rfl : j = l.length := by omega
      have hall : okLog l v = true := (okLog_iff _ _).2 ⟨h64', by have := AA.out.2.1; rwa [List.take_length] at this, (rises_iff _).2 fun i x y hx hy => AA.out.2.2 i x y (List.getElem?_eq_some_iff.1 hy).1 hx hy⟩
      have HN := Lib.hid hall
      clear hall
      go_wp2_with fail
      go_ret
      rw [HN.out]
      exact ⟨rfl, hB⟩

set_option maxHeartbeats 4000000 in
theorem rcheck15_any (r : RegS) (sl : SlcE) (w : World) (hl : LogAt w w.heap.size sl r.log) :
    Calls Try.prog 19 #[.agg (rgv r sl).toArray] w fun e w' => e = .returned (.bool (mayR r)) ∧ Below w.heap.size w w' := by
  obtain ⟨p, v, lg, k⟩ := r
  obtain ⟨A, n, c⟩ := sl
  obtain rfl : n = lg.length := hl.1
  have hc2 : lg.length ≤ 9223372036854775807 := Nat.le_trans hl.2.1 hl.2.2.1
  have HE := Lib.hid hl.2.2.2
  clear hl
  unfold rgv
  have hw := Below.refl w.heap.size w
  have hb0 : Below w.heap.size w (w.alloc (.cells #[.int .i64 p, .int .i64 v, .slice A lg.length c, .int .i64 k] 24)) := hw.alloc (Nat.le_refl _) _
  by_cases h1 : 0 ≤ v
  case neg =>
    have HN := Lib.hid (mayR_no (r := ⟨p, v, lg, k⟩) (fun h => h1 h.1.1))
    go_enter Try.func19, Try.ntmps19
    go_wp2_with fail
    go_ret
    rw [HN.out]
    exact ⟨rfl, hb0⟩
  by_cases h2 : v ≤ p
  case neg =>
    have HN := Lib.hid (mayR_no (r := ⟨p, v, lg, k⟩) (fun h => h2 h.1.2.1))
    go_enter Try.func19, Try.ntmps19
    go_wp2_with fail
    go_ret
    rw [HN.out]
    exact ⟨rfl, hb0⟩
  by_cases h3 : p ≤ 1048576
  case neg =>
    have HN := Lib.hid (mayR_no (r := ⟨p, v, lg, k⟩) (fun h => h3 h.1.2.2))
    go_enter Try.func19, Try.ntmps19
    go_wp2_with fail
    go_ret
    rw [HN.out]
    exact ⟨rfl, hb0⟩
  have HH := Lib.hid (And.intro hb0 (Blk.new w 24 [.int .i64 p, .int .i64 v, .slice A lg.length c, .int .i64 k]))
  clear hb0
  go_enter Try.func19, Try.ntmps19
  go_wp2_with fail
  refine (rlog_any lg A c v _ ((HE.out.below HH.out.1).more HH.out.1.size) hc2).mono ?_
  rintro e w1 ⟨rfl, hb⟩
  have hw1 := below_trans HH.out.1 hb HH.out.1.size
  have B1 := HH.out.2.keep hb
  clear hb HH
  cases hO : okLog lg v with
  | false =>
    have HN := Lib.hid (mayR_no (r := ⟨p, v, lg, k⟩) (fun h => by have := h.2.1; dsimp only at this; rw [hO] at this; cases this))
    clear hO
    go_wp2_with fail
    go_ret
    rw [HN.out]
    exact ⟨rfl, hw1⟩
  | true =>
    have c2 := B1.cell 2
    have c3 := B1.cell 3
    simp at c2 c3
    have HO := Lib.hid hO
    clear hO
    by_cases h4 : 0 ≤ k
    case neg =>
      have HN := Lib.hid (mayR_no (r := ⟨p, v, lg, k⟩) (fun h => h4 h.2.2.1))
      go_wp2_with fail
      go_ret
      rw [HN.out]
      exact ⟨rfl, hw1⟩
    by_cases h5 : k ≤ (lg.length : Int)
    case neg =>
      have HN := Lib.hid (mayR_no (r := ⟨p, v, lg, k⟩) (fun h => h5 h.2.2.2))
      have d5 : decide (k ≤ (lg.length : Int)) = false := decide_eq_false h5
      go_wp2_with fail
      go_ret
      rw [HN.out]
      exact ⟨rfl, hw1⟩
    have HN := Lib.hid ((mayR_iff ⟨p, v, lg, k⟩).2 ⟨⟨h1, h2, h3⟩, HO.out, h4, h5⟩)
    have d5 : decide (k ≤ (lg.length : Int)) = true := decide_eq_true h5
    go_wp2_with fail
    go_ret
    rw [HN.out]
    exact ⟨rfl, hw1⟩
end Go.Proofs.Ytbicefilfhcgoaa
