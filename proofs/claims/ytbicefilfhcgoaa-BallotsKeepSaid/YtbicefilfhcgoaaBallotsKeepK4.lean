/-
  The walks over the document's 'log' and 'Check' of registers.
  Rows of mail.
  The document's ballot in memory; the walks over its Won, better, New.
  The walks over Won and Sites of a ballot.
  The walk over put of a ballot.
  The walk over Chosen of a ballot.
  The walk over New of a ballot.
-/
import Derived.Test.YtbicefilfhcgoaaBallotsKeepK1
import Derived.Test.YtbicefilfhcgoaaBallotsKeepK2
import Derived.Test.YtbicefilfhcgoaaBallotsKeepK3
set_option linter.unusedSimpArgs false
set_option linter.unusedVariables false
set_option maxRecDepth 100000
namespace Go.Proofs.Ytbicefilfhcgoaa
open Go Go.RowKit Go.Sq Go.Wd Go.Arch

set_option maxHeartbeats 2000000 in
theorem rmay09_any (x0 x1 x2 x3 x4 : Int) (w : World) :
    Calls Try.prog 66 #[.agg #[.int .i64 x0, .int .i64 x1, .int .i64 x2, .int .i64 x3, .int .i64 x4]] w fun e w' => e = .returned (.bool (ordOk ⟨x0, x1, x2, x3, x4⟩)) ∧ Below w.heap.size w w' := by
  go_enter Try.func66, Try.ntmps66
  go_wp2
  all_goals (go_ret; refine ⟨ret_bool ?_, by (repeat (first | with_reducible apply Below.drew | with_reducible refine Below.setCell ?_ (by first | exact Nat.le_refl _ | (simp; done) | (simp; omega) | omega) _ | with_reducible refine Below.alloc ?_ (by first | exact Nat.le_refl _ | (simp; done) | (simp; omega) | omega) _ | with_reducible exact Below.refl _ _ | with_reducible assumption))⟩)
  all_goals (try simp only [beq_iff_eq, decide_eq_true_eq, beq_eq_false_iff_ne, decide_eq_false_iff_not, bne_iff_ne, ne_eq, Bool.not_eq_true', Bool.not_eq_false', Int.not_le, Int.not_lt, not_false_eq_true, bne_eq_false_iff_eq] at *)
  all_goals (rw [Bool.eq_iff_iff]; simp [ordOk] at *; (try simp [*]); (first | done | omega))
theorem rcheck09_any (x0 x1 x2 x3 x4 : Int) (w : World) :
    Calls Try.prog 59 #[.agg #[.int .i64 x0, .int .i64 x1, .int .i64 x2, .int .i64 x3, .int .i64 x4]] w fun e w' => e = .returned (.int .i64 (errOf (ordOk ⟨x0, x1, x2, x3, x4⟩))) ∧ Below w.heap.size w w' := by
  have hw := Below.refl w.heap.size w
  go_enter Try.func59, Try.ntmps59
  go_wp2_with fail
  refine (rmay09_any _ _ _ _ _ _).mono ?_
  rintro e w1 ⟨rfl, hb⟩
  have hw1 := below_trans (hw.alloc (Nat.le_refl _) _) hb (by simp)
  clear hb
  cases hO : ordOk ⟨x0, x1, x2, x3, x4⟩ with
  | false =>
    have HN := Lib.hid hO
    go_wp2_with fail
    go_ret
    rw [HN.out]
    exact ⟨rfl, hw1⟩
  | true =>
    have HN := Lib.hid hO
    go_wp2_with fail
    go_ret
    rw [HN.out]
    exact ⟨rfl, hw1⟩

theorem okLog_fall {l : List Ent} {v : Int} {i : Nat} {x y : Ent} (hx : l[i]? = some x) (hy : l[i + 1]? = some y) (h : y.1 < x.1) : okLog l v = false := by
  cases hb : okLog l v
  · rfl
  · have := ((okLog_iff l v).1 hb).2.2
    rw [rises_no hx hy h] at this
    cases this

set_option maxHeartbeats 4000000 in
theorem rlog_any (l : List Ent) (A : Option Addr) (c : Nat) (v : Int) (w : World) (ha : Ents w w.heap.size A l) (hl : l.length ≤ 9223372036854775807) :
    Calls Try.prog 48 #[.slice A l.length c, .int .i64 v] w fun e w' => e = .returned (.bool (okLog l v)) ∧ Below w.heap.size w w' := by
  have hw := Below.refl w.heap.size w
  have HE := Lib.hid ha
  clear ha
  by_cases h64 : 64 < l.length
  · have HN := Lib.hid (okLog_long (v := v) h64)
    go_enter Try.func48, Try.ntmps48
    go_wp2_with fail
    go_ret
    rw [HN.out]
    exact ⟨rfl, hw⟩
  have h64' : l.length ≤ 64 := by omega
  go_enter Try.func48, Try.ntmps48
  go_wp2_with fail
  go_loopg [5] l.length (fun q i wr => ∃ (j : Nat), q = l.length - j ∧ j ≤ l.length ∧ i = .int .i64 j ∧ ((∀ e ∈ l.take j, okEnt v e = true) ∧ (∀ i x y, i + 1 < j → l[i]? = some x → l[i + 1]? = some y → x.1 ≤ y.1)) ∧ Below w.heap.size w wr)
  case atStart => exact ⟨0, rfl, by omega, rfl, ⟨by simp, fun i _ _ h => absurd h (by omega)⟩, hw⟩
  case round =>
    clear hw
    obtain ⟨j, hq, hj, rfl, ht, hB⟩ := hrel
    have AA : Aside (gk = l.length - j ∧ (∀ e ∈ l.take j, okEnt v e = true) ∧ (∀ i x y, i + 1 < j → l[i]? = some x → l[i + 1]? = some y → x.1 ≤ y.1)) := ⟨hq, ht⟩
    clear hq ht
    by_cases hlt : j < l.length
    · obtain ⟨b1, o1, x, rfl, hx, FA⟩ := HE.out.at_ hlt
      have hz := hB.size
      have hbad : Hid (∀ b : Bool, b = false → (x.1 < 1 ∨ v < x.1 ∨ (∃ y, 0 < j ∧ l[j - 1]? = some y ∧ x.1 < y.1)) → okLog l v = b) := Lib.hid (fun b hb h => by
        subst hb
        rcases h with h | h | ⟨y, h0, hy, h⟩
        · exact okLog_no hx.out (okEnt_no (.inl (by omega)))
        · exact okLog_no hx.out (okEnt_no (.inl (by omega)))
        · exact okLog_fall hy (by rw [Nat.sub_add_cancel h0]; exact hx.out) h)
      by_cases h1 : x.1 < 1
      · have HN := Lib.hid (hbad.out false rfl (.inl h1))
        clear hbad
        go_wp2_with fail
        refine wp_region_p ([(0, true), (1, true), (2, true), (3, true), (4, true), (5, true), (6, true), (7, true), (8, true), (9, true), (10, true), (11, true), (12, true), (13, true), (14, true), (15, true), (16, true), (17, true), (18, true), (19, true), (20, true), (21, true), (22, true), (23, true), (24, true), (25, true), (26, true), (27, true), (28, true), (29, true), (30, true), (31, true), (32, true), (33, true), (34, true), (35, true), (36, true), (37, true), (38, true), (39, false), (40, true), (41, true)]) (fun w' => Below w.heap.size w w') (by kernel_rfl) rfl (by kernel_rfl) (by kernel_rfl) (hB.drew) rfl ?_
        intro KP RP TP hKP hTP hTP'
        simp only [pick, nth]
        go_wp2_with (first
          | (apply SeqP.skip; rfl; simp only [Act.put, List.setIfInBounds_toArray, List.set_cons_zero, List.set_cons_succ])
          | (apply SeqP.call; rfl; rfl; (intro w2 hw; have hw := hTP _ hw; ((obtain ⟨q0, q1, q2, q3, q4, q5⟩ := FA _ hw)); go_simp; exact ⟨rfl, rfl⟩); (intro w2 hw; have hw := hTP _ hw; ((obtain ⟨q0, q1, q2, q3, q4, q5⟩ := FA _ hw)); (first | fail)); simp only [Act.put, List.setIfInBounds_toArray, List.set_cons_zero, List.set_cons_succ])
          | (apply SeqP.pure; rfl; (intro w2 hw; have hw := hTP _ hw; ((obtain ⟨q0, q1, q2, q3, q4, q5⟩ := FA _ hw)); go_simp; with_reducible rfl); simp only [Act.put, List.setIfInBounds_toArray, List.set_cons_zero, List.set_cons_succ])
          | (apply SeqP.split; rfl; rfl; all_goals (intro hc; simp only [hc]; try simp only [beq_iff_eq, decide_eq_true_eq, beq_eq_false_iff_ne, decide_eq_false_iff_not, bne_iff_ne, ne_eq, Bool.not_eq_true', Bool.not_eq_false', Int.not_le, Int.not_lt, bne_eq_false_iff_eq, Bool.or_eq_true, Bool.and_eq_true, Bool.or_eq_false_iff] at hc)))
        apply SeqP.skip_eff
        · rfl
        · exact hTP' _ (hB.drew)
        (try simp only [Act.put, List.setIfInBounds_toArray, List.set_cons_zero, List.set_cons_succ])
        go_wp2_with (first
          | (apply SeqP.skip; rfl; simp only [Act.put, List.setIfInBounds_toArray, List.set_cons_zero, List.set_cons_succ])
          | (apply SeqP.call; rfl; rfl; (intro w2 hw; have hw := hTP _ hw; ((obtain ⟨q0, q1, q2, q3, q4, q5⟩ := FA _ hw)); go_simp; exact ⟨rfl, rfl⟩); (intro w2 hw; have hw := hTP _ hw; ((obtain ⟨q0, q1, q2, q3, q4, q5⟩ := FA _ hw)); (first | fail)); simp only [Act.put, List.setIfInBounds_toArray, List.set_cons_zero, List.set_cons_succ])
          | (apply SeqP.pure; rfl; (intro w2 hw; have hw := hTP _ hw; ((obtain ⟨q0, q1, q2, q3, q4, q5⟩ := FA _ hw)); go_simp; with_reducible rfl); simp only [Act.put, List.setIfInBounds_toArray, List.set_cons_zero, List.set_cons_succ])
          | (apply SeqP.split; rfl; rfl; all_goals (intro hc; simp only [hc]; try simp only [beq_iff_eq, decide_eq_true_eq, beq_eq_false_iff_ne, decide_eq_false_iff_not, bne_iff_ne, ne_eq, Bool.not_eq_true', Bool.not_eq_false', Int.not_le, Int.not_lt, bne_eq_false_iff_eq, Bool.or_eq_true, Bool.and_eq_true, Bool.or_eq_false_iff] at hc)))
        apply SeqP.nil
        refine hKP _ _ (hTP' _ (hB.drew)) ?_
        clear hKP hTP hTP'
        go_wp2_with fail
        go_ret
        rw [HN.out]
        exact ⟨rfl, hB.drew⟩
      by_cases h2 : v < x.1
      · have HN := Lib.hid (hbad.out false rfl (.inr (.inl h2)))
        clear hbad
        go_wp2_with fail
        refine wp_region_p ([(0, true), (1, true), (2, true), (3, true), (4, true), (5, true), (6, true), (7, true), (8, true), (9, true), (10, true), (11, true), (12, true), (13, true), (14, true), (15, true), (16, true), (17, true), (18, true), (19, true), (20, true), (21, true), (22, true), (23, true), (24, true), (25, true), (26, true), (27, true), (28, true), (29, true), (30, true), (31, true), (32, true), (33, true), (34, true), (35, true), (36, true), (37, true), (38, true), (39, false), (40, true), (41, true)]) (fun w' => Below w.heap.size w w') (by kernel_rfl) rfl (by kernel_rfl) (by kernel_rfl) (hB.drew) rfl ?_
        intro KP RP TP hKP hTP hTP'
        simp only [pick, nth]
        go_wp2_with (first
          | (apply SeqP.skip; rfl; simp only [Act.put, List.setIfInBounds_toArray, List.set_cons_zero, List.set_cons_succ])
          | (apply SeqP.call; rfl; rfl; (intro w2 hw; have hw := hTP _ hw; ((obtain ⟨q0, q1, q2, q3, q4, q5⟩ := FA _ hw)); go_simp; exact ⟨rfl, rfl⟩); (intro w2 hw; have hw := hTP _ hw; ((obtain ⟨q0, q1, q2, q3, q4, q5⟩ := FA _ hw)); (first | fail)); simp only [Act.put, List.setIfInBounds_toArray, List.set_cons_zero, List.set_cons_succ])
          | (apply SeqP.pure; rfl; (intro w2 hw; have hw := hTP _ hw; ((obtain ⟨q0, q1, q2, q3, q4, q5⟩ := FA _ hw)); go_simp; with_reducible rfl); simp only [Act.put, List.setIfInBounds_toArray, List.set_cons_zero, List.set_cons_succ])
          | (apply SeqP.split; rfl; rfl; all_goals (intro hc; simp only [hc]; try simp only [beq_iff_eq, decide_eq_true_eq, beq_eq_false_iff_ne, decide_eq_false_iff_not, bne_iff_ne, ne_eq, Bool.not_eq_true', Bool.not_eq_false', Int.not_le, Int.not_lt, bne_eq_false_iff_eq, Bool.or_eq_true, Bool.and_eq_true, Bool.or_eq_false_iff] at hc)))
        all_goals first | (exfalso; omega) | skip
        apply SeqP.skip_eff
        · rfl
        · exact hTP' _ (hB.drew)
        (try simp only [Act.put, List.setIfInBounds_toArray, List.set_cons_zero, List.set_cons_succ])
        go_wp2_with (first
          | (apply SeqP.skip; rfl; simp only [Act.put, List.setIfInBounds_toArray, List.set_cons_zero, List.set_cons_succ])
          | (apply SeqP.call; rfl; rfl; (intro w2 hw; have hw := hTP _ hw; ((obtain ⟨q0, q1, q2, q3, q4, q5⟩ := FA _ hw)); go_simp; exact ⟨rfl, rfl⟩); (intro w2 hw; have hw := hTP _ hw; ((obtain ⟨q0, q1, q2, q3, q4, q5⟩ := FA _ hw)); (first | fail)); simp only [Act.put, List.setIfInBounds_toArray, List.set_cons_zero, List.set_cons_succ])
          | (apply SeqP.pure; rfl; (intro w2 hw; have hw := hTP _ hw; ((obtain ⟨q0, q1, q2, q3, q4, q5⟩ := FA _ hw)); go_simp; with_reducible rfl); simp only [Act.put, List.setIfInBounds_toArray, List.set_cons_zero, List.set_cons_succ])
          | (apply SeqP.split; rfl; rfl; all_goals (intro hc; simp only [hc]; try simp only [beq_iff_eq, decide_eq_true_eq, beq_eq_false_iff_ne, decide_eq_false_iff_not, bne_iff_ne, ne_eq, Bool.not_eq_true', Bool.not_eq_false', Int.not_le, Int.not_lt, bne_eq_false_iff_eq, Bool.or_eq_true, Bool.and_eq_true, Bool.or_eq_false_iff] at hc)))
        all_goals first | (exfalso; omega) | skip
        apply SeqP.nil
        refine hKP _ _ (hTP' _ (hB.drew)) ?_
        clear hKP hTP hTP'
        go_wp2_with fail
        go_ret
        rw [HN.out]
        exact ⟨rfl, hB.drew⟩
      rcases Nat.eq_zero_or_pos j with h0 | h0
      · have hj0 : ¬ (0 : Int) < (j : Int) := by omega
        have HR : Hid (∀ i y z, i + 1 < j + 1 → l[i]? = some y → l[i + 1]? = some z → y.1 ≤ z.1) := Lib.hid (fun i y z hi _ _ => absurd hi (by omega))
        clear hbad h0
        go_wp2_with fail
        refine wp_region_p ([(0, true), (1, true), (2, true), (3, true), (4, true), (5, true), (6, true), (7, true), (8, true), (9, true), (10, true), (11, true), (12, true), (13, true), (14, true), (15, true), (16, true), (17, true), (18, true), (19, true), (20, true), (21, true), (22, true), (23, true), (24, true), (25, true), (26, true), (27, true), (28, true), (29, true), (30, true), (31, true), (32, true), (33, true), (34, true), (35, true), (36, true), (37, true), (38, true), (39, false), (40, true), (41, true)]) (fun w' => Below w.heap.size w w') (by kernel_rfl) rfl (by kernel_rfl) (by kernel_rfl) (hB.drew) rfl ?_
        intro KP RP TP hKP hTP hTP'
        simp only [pick, nth]
        go_wp2_with (first
          | (apply SeqP.skip; rfl; simp only [Act.put, List.setIfInBounds_toArray, List.set_cons_zero, List.set_cons_succ])
          | (apply SeqP.call; rfl; rfl; (intro w2 hw; have hw := hTP _ hw; ((obtain ⟨q0, q1, q2, q3, q4, q5⟩ := FA _ hw)); go_simp; exact ⟨rfl, rfl⟩); (intro w2 hw; have hw := hTP _ hw; ((obtain ⟨q0, q1, q2, q3, q4, q5⟩ := FA _ hw)); (first | fail)); simp only [Act.put, List.setIfInBounds_toArray, List.set_cons_zero, List.set_cons_succ])
          | (apply SeqP.pure; rfl; (intro w2 hw; have hw := hTP _ hw; ((obtain ⟨q0, q1, q2, q3, q4, q5⟩ := FA _ hw)); go_simp; with_reducible rfl); simp only [Act.put, List.setIfInBounds_toArray, List.set_cons_zero, List.set_cons_succ])
          | (apply SeqP.split; rfl; rfl; all_goals (intro hc; simp only [hc]; try simp only [beq_iff_eq, decide_eq_true_eq, beq_eq_false_iff_ne, decide_eq_false_iff_not, bne_iff_ne, ne_eq, Bool.not_eq_true', Bool.not_eq_false', Int.not_le, Int.not_lt, bne_eq_false_iff_eq, Bool.or_eq_true, Bool.and_eq_true, Bool.or_eq_false_iff] at hc)))
        all_goals first | (exfalso; omega) | skip
        apply SeqP.eff
        · rfl
        intro KE hKE
        go_wp2_with fail
        refine (rcheck09_any _ _ _ _ _ _).mono ?_
        rintro e w1 ⟨rfl, hb⟩
        have hB1 := below_trans hB.drew hb hz
        refine hKE _ _ (hTP' _ hB1) ?_
        clear hKE KE hb
        cases hO : ordOk ⟨x.2.1, x.2.2.1, x.2.2.2.1, x.2.2.2.2.1, x.2.2.2.2.2⟩ with
        | false =>
          have HN := Lib.hid (okLog_no hx.out (okEnt_no (v := v) (.inr hO)))
          simp only [errOf]
          go_wp2_with (first
            | (apply SeqP.skip; rfl; simp only [Act.put, List.setIfInBounds_toArray, List.set_cons_zero, List.set_cons_succ])
            | (apply SeqP.call; rfl; rfl; (intro w2 hw; have hw := hTP _ hw; ((obtain ⟨q0, q1, q2, q3, q4, q5⟩ := FA _ hw)); go_simp; exact ⟨rfl, rfl⟩); (intro w2 hw; have hw := hTP _ hw; ((obtain ⟨q0, q1, q2, q3, q4, q5⟩ := FA _ hw)); (first | fail)); simp only [Act.put, List.setIfInBounds_toArray, List.set_cons_zero, List.set_cons_succ])
            | (apply SeqP.pure; rfl; (intro w2 hw; have hw := hTP _ hw; ((obtain ⟨q0, q1, q2, q3, q4, q5⟩ := FA _ hw)); go_simp; with_reducible rfl); simp only [Act.put, List.setIfInBounds_toArray, List.set_cons_zero, List.set_cons_succ])
            | (apply SeqP.split; rfl; rfl; all_goals (intro hc; simp only [hc]; try simp only [beq_iff_eq, decide_eq_true_eq, beq_eq_false_iff_ne, decide_eq_false_iff_not, bne_iff_ne, ne_eq, Bool.not_eq_true', Bool.not_eq_false', Int.not_le, Int.not_lt, bne_eq_false_iff_eq, Bool.or_eq_true, Bool.and_eq_true, Bool.or_eq_false_iff] at hc)))
          all_goals first | (exfalso; omega) | skip
          apply SeqP.nil
          refine hKP _ _ (hTP' _ (hB1)) ?_
          clear hKP hTP hTP'
          go_wp2_with fail
          go_ret
          rw [HN.out]
          exact ⟨rfl, hB1⟩
        | true =>
          have HT : Hid ((∀ e ∈ l.take (j + 1), okEnt v e = true) ∧ (∀ i x y, i + 1 < j + 1 → l[i]? = some x → l[i + 1]? = some y → x.1 ≤ y.1)) := Lib.hid ⟨fun e he => by
            rw [List.take_add_one, hx.out] at he
            rcases List.mem_append.1 he with he | he
            · exact AA.out.2.1 e he
            · obtain rfl : e = x := by simpa using he
              unfold okEnt
              have hO' : ordOk (ordE e) = true := hO
              rw [hO', decide_eq_true (by omega)]
              rfl, fun i y z hi hy hz => HR.out i y z hi hy hz⟩
          simp only [errOf]
          go_wp2_with (first
            | (apply SeqP.skip; rfl; simp only [Act.put, List.setIfInBounds_toArray, List.set_cons_zero, List.set_cons_succ])
            | (apply SeqP.call; rfl; rfl; (intro w2 hw; have hw := hTP _ hw; ((obtain ⟨q0, q1, q2, q3, q4, q5⟩ := FA _ hw)); go_simp; exact ⟨rfl, rfl⟩); (intro w2 hw; have hw := hTP _ hw; ((obtain ⟨q0, q1, q2, q3, q4, q5⟩ := FA _ hw)); (first | fail)); simp only [Act.put, List.setIfInBounds_toArray, List.set_cons_zero, List.set_cons_succ])
            | (apply SeqP.pure; rfl; (intro w2 hw; have hw := hTP _ hw; ((obtain ⟨q0, q1, q2, q3, q4, q5⟩ := FA _ hw)); go_simp; with_reducible rfl); simp only [Act.put, List.setIfInBounds_toArray, List.set_cons_zero, List.set_cons_succ])
            | (apply SeqP.split; rfl; rfl; all_goals (intro hc; simp only [hc]; try simp only [beq_iff_eq, decide_eq_true_eq, beq_eq_false_iff_ne, decide_eq_false_iff_not, bne_iff_ne, ne_eq, Bool.not_eq_true', Bool.not_eq_false', Int.not_le, Int.not_lt, bne_eq_false_iff_eq, Bool.or_eq_true, Bool.and_eq_true, Bool.or_eq_false_iff] at hc)))
          all_goals first | (exfalso; omega) | skip
          apply SeqP.nil
          refine hKP _ _ (hTP' _ (hB1)) ?_
          clear hKP hTP hTP'
          go_wp2_with fail
          go_roundg (l.length - (j + 1))
          case measure => have hkk := AA.out.1; omega
          case rel => exact ⟨j + 1, rfl, by omega, by go_num, HT.out, hB1⟩
      have hj0 : (0 : Int) < (j : Int) := by omega
      have hj1 : j - 1 < l.length := by omega
      have wj : IntKind.i64.wrap ((j : Int) - 1) = ((j - 1 : Nat) : Int) := by rw [IntWalk.i64_in _ (by omega)]; omega
      have wj2 : wrap64 ((j : Int) - 1) = ((j - 1 : Nat) : Int) := by unfold wrap64; omega
      obtain ⟨b2, o2, y, hA2, hy, FY⟩ := HE.out.at_ hj1
      cases hA2
      by_cases h3 : x.1 < y.1
      · have HN := Lib.hid (hbad.out false rfl (.inr (.inr ⟨y, h0, hy.out, h3⟩)))
        clear hbad
        go_wp2_with fail
        refine wp_region_p ([(0, true), (1, true), (2, true), (3, true), (4, true), (5, true), (6, true), (7, true), (8, true), (9, true), (10, true), (11, true), (12, true), (13, true), (14, true), (15, true), (16, true), (17, true), (18, true), (19, true), (20, true), (21, true), (22, true), (23, true), (24, true), (25, true), (26, true), (27, true), (28, true), (29, true), (30, true), (31, true), (32, true), (33, true), (34, true), (35, true), (36, true), (37, true), (38, true), (39, false), (40, true), (41, true)]) (fun w' => Below w.heap.size w w') (by kernel_rfl) rfl (by kernel_rfl) (by kernel_rfl) (hB.drew) rfl ?_
        intro KP RP TP hKP hTP hTP'
        simp only [pick, nth]
        go_wp2_with (first
          | (apply SeqP.skip; rfl; simp only [Act.put, List.setIfInBounds_toArray, List.set_cons_zero, List.set_cons_succ])
          | (apply SeqP.call; rfl; rfl; (intro w2 hw; have hw := hTP _ hw; ((obtain ⟨q0, q1, q2, q3, q4, q5⟩ := FA _ hw; obtain ⟨p0, p1, p2, p3, p4, p5⟩ := FY _ hw)); go_simp; exact ⟨rfl, rfl⟩); (intro w2 hw; have hw := hTP _ hw; ((obtain ⟨q0, q1, q2, q3, q4, q5⟩ := FA _ hw; obtain ⟨p0, p1, p2, p3, p4, p5⟩ := FY _ hw)); (first | fail)); simp only [Act.put, List.setIfInBounds_toArray, List.set_cons_zero, List.set_cons_succ])
          | (apply SeqP.pure; rfl; (intro w2 hw; have hw := hTP _ hw; ((obtain ⟨q0, q1, q2, q3, q4, q5⟩ := FA _ hw; obtain ⟨p0, p1, p2, p3, p4, p5⟩ := FY _ hw)); go_simp; with_reducible rfl); simp only [Act.put, List.setIfInBounds_toArray, List.set_cons_zero, List.set_cons_succ])
          | (apply SeqP.split; rfl; rfl; all_goals (intro hc; simp only [hc]; try simp only [beq_iff_eq, decide_eq_true_eq, beq_eq_false_iff_ne, decide_eq_false_iff_not, bne_iff_ne, ne_eq, Bool.not_eq_true', Bool.not_eq_false', Int.not_le, Int.not_lt, bne_eq_false_iff_eq, Bool.or_eq_true, Bool.and_eq_true, Bool.or_eq_false_iff] at hc)))
        all_goals first | (exfalso; omega) | skip
        apply SeqP.skip_eff
        · rfl
        · exact hTP' _ (hB.drew)
        (try simp only [Act.put, List.setIfInBounds_toArray, List.set_cons_zero, List.set_cons_succ])
        go_wp2_with (first
          | (apply SeqP.skip; rfl; simp only [Act.put, List.setIfInBounds_toArray, List.set_cons_zero, List.set_cons_succ])
          | (apply SeqP.call; rfl; rfl; (intro w2 hw; have hw := hTP _ hw; ((obtain ⟨q0, q1, q2, q3, q4, q5⟩ := FA _ hw; obtain ⟨p0, p1, p2, p3, p4, p5⟩ := FY _ hw)); go_simp; exact ⟨rfl, rfl⟩); (intro w2 hw; have hw := hTP _ hw; ((obtain ⟨q0, q1, q2, q3, q4, q5⟩ := FA _ hw; obtain ⟨p0, p1, p2, p3, p4, p5⟩ := FY _ hw)); (first | fail)); simp only [Act.put, List.setIfInBounds_toArray, List.set_cons_zero, List.set_cons_succ])
          | (apply SeqP.pure; rfl; (intro w2 hw; have hw := hTP _ hw; ((obtain ⟨q0, q1, q2, q3, q4, q5⟩ := FA _ hw; obtain ⟨p0, p1, p2, p3, p4, p5⟩ := FY _ hw)); go_simp; with_reducible rfl); simp only [Act.put, List.setIfInBounds_toArray, List.set_cons_zero, List.set_cons_succ])
          | (apply SeqP.split; rfl; rfl; all_goals (intro hc; simp only [hc]; try simp only [beq_iff_eq, decide_eq_true_eq, beq_eq_false_iff_ne, decide_eq_false_iff_not, bne_iff_ne, ne_eq, Bool.not_eq_true', Bool.not_eq_false', Int.not_le, Int.not_lt, bne_eq_false_iff_eq, Bool.or_eq_true, Bool.and_eq_true, Bool.or_eq_false_iff] at hc)))
        all_goals first | (exfalso; omega) | skip
        apply SeqP.nil
        refine hKP _ _ (hTP' _ (hB.drew)) ?_
        clear hKP hTP hTP'
        go_wp2_with fail
        go_ret
        rw [HN.out]
        exact ⟨rfl, hB.drew⟩
      · have HR : Hid (∀ i y z, i + 1 < j + 1 → l[i]? = some y → l[i + 1]? = some z → y.1 ≤ z.1) := Lib.hid (fun i y' z hi hy' hz' => by
          rcases Nat.lt_or_ge (i + 1) j with h | h
          · exact AA.out.2.2 i y' z h hy' hz'
          · obtain rfl : j = i + 1 := by omega
            have e1 := hy.out
            have e2 := hx.out
            rw [Nat.add_sub_cancel, hy'] at e1
            rw [hz'] at e2
            cases e1
            cases e2
            omega)
        clear hbad
        go_wp2_with fail
        refine wp_region_p ([(0, true), (1, true), (2, true), (3, true), (4, true), (5, true), (6, true), (7, true), (8, true), (9, true), (10, true), (11, true), (12, true), (13, true), (14, true), (15, true), (16, true), (17, true), (18, true), (19, true), (20, true), (21, true), (22, true), (23, true), (24, true), (25, true), (26, true), (27, true), (28, true), (29, true), (30, true), (31, true), (32, true), (33, true), (34, true), (35, true), (36, true), (37, true), (38, true), (39, false), (40, true), (41, true)]) (fun w' => Below w.heap.size w w') (by kernel_rfl) rfl (by kernel_rfl) (by kernel_rfl) (hB.drew) rfl ?_
        intro KP RP TP hKP hTP hTP'
        simp only [pick, nth]
        go_wp2_with (first
          | (apply SeqP.skip; rfl; simp only [Act.put, List.setIfInBounds_toArray, List.set_cons_zero, List.set_cons_succ])
          | (apply SeqP.call; rfl; rfl; (intro w2 hw; have hw := hTP _ hw; ((obtain ⟨q0, q1, q2, q3, q4, q5⟩ := FA _ hw; obtain ⟨p0, p1, p2, p3, p4, p5⟩ := FY _ hw)); go_simp; exact ⟨rfl, rfl⟩); (intro w2 hw; have hw := hTP _ hw; ((obtain ⟨q0, q1, q2, q3, q4, q5⟩ := FA _ hw; obtain ⟨p0, p1, p2, p3, p4, p5⟩ := FY _ hw)); (first | fail)); simp only [Act.put, List.setIfInBounds_toArray, List.set_cons_zero, List.set_cons_succ])
          | (apply SeqP.pure; rfl; (intro w2 hw; have hw := hTP _ hw; ((obtain ⟨q0, q1, q2, q3, q4, q5⟩ := FA _ hw; obtain ⟨p0, p1, p2, p3, p4, p5⟩ := FY _ hw)); go_simp; with_reducible rfl); simp only [Act.put, List.setIfInBounds_toArray, List.set_cons_zero, List.set_cons_succ])
          | (apply SeqP.split; rfl; rfl; all_goals (intro hc; simp only [hc]; try simp only [beq_iff_eq, decide_eq_true_eq, beq_eq_false_iff_ne, decide_eq_false_iff_not, bne_iff_ne, ne_eq, Bool.not_eq_true', Bool.not_eq_false', Int.not_le, Int.not_lt, bne_eq_false_iff_eq, Bool.or_eq_true, Bool.and_eq_true, Bool.or_eq_false_iff] at hc)))
        all_goals first | (exfalso; omega) | skip
        apply SeqP.eff
        · rfl
        intro KE hKE
        go_wp2_with fail
        refine (rcheck09_any _ _ _ _ _ _).mono ?_
        rintro e w1 ⟨rfl, hb⟩
        have hB1 := below_trans hB.drew hb hz
        refine hKE _ _ (hTP' _ hB1) ?_
        clear hKE KE hb
        cases hO : ordOk ⟨x.2.1, x.2.2.1, x.2.2.2.1, x.2.2.2.2.1, x.2.2.2.2.2⟩ with
        | false =>
          have HN := Lib.hid (okLog_no hx.out (okEnt_no (v := v) (.inr hO)))
          simp only [errOf]
          go_wp2_with (first
            | (apply SeqP.skip; rfl; simp only [Act.put, List.setIfInBounds_toArray, List.set_cons_zero, List.set_cons_succ])
            | (apply SeqP.call; rfl; rfl; (intro w2 hw; have hw := hTP _ hw; ((obtain ⟨q0, q1, q2, q3, q4, q5⟩ := FA _ hw; obtain ⟨p0, p1, p2, p3, p4, p5⟩ := FY _ hw)); go_simp; exact ⟨rfl, rfl⟩); (intro w2 hw; have hw := hTP _ hw; ((obtain ⟨q0, q1, q2, q3, q4, q5⟩ := FA _ hw; obtain ⟨p0, p1, p2, p3, p4, p5⟩ := FY _ hw)); (first | fail)); simp only [Act.put, List.setIfInBounds_toArray, List.set_cons_zero, List.set_cons_succ])
            | (apply SeqP.pure; rfl; (intro w2 hw; have hw := hTP _ hw; ((obtain ⟨q0, q1, q2, q3, q4, q5⟩ := FA _ hw; obtain ⟨p0, p1, p2, p3, p4, p5⟩ := FY _ hw)); go_simp; with_reducible rfl); simp only [Act.put, List.setIfInBounds_toArray, List.set_cons_zero, List.set_cons_succ])
            | (apply SeqP.split; rfl; rfl; all_goals (intro hc; simp only [hc]; try simp only [beq_iff_eq, decide_eq_true_eq, beq_eq_false_iff_ne, decide_eq_false_iff_not, bne_iff_ne, ne_eq, Bool.not_eq_true', Bool.not_eq_false', Int.not_le, Int.not_lt, bne_eq_false_iff_eq, Bool.or_eq_true, Bool.and_eq_true, Bool.or_eq_false_iff] at hc)))
          all_goals first | (exfalso; omega) | skip
          apply SeqP.nil
          refine hKP _ _ (hTP' _ (hB1)) ?_
          clear hKP hTP hTP'
          go_wp2_with fail
          go_ret
          rw [HN.out]
          exact ⟨rfl, hB1⟩
        | true =>
          have HT : Hid ((∀ e ∈ l.take (j + 1), okEnt v e = true) ∧ (∀ i x y, i + 1 < j + 1 → l[i]? = some x → l[i + 1]? = some y → x.1 ≤ y.1)) := Lib.hid ⟨fun e he => by
            rw [List.take_add_one, hx.out] at he
            rcases List.mem_append.1 he with he | he
            · exact AA.out.2.1 e he
            · obtain rfl : e = x := by simpa using he
              unfold okEnt
              have hO' : ordOk (ordE e) = true := hO
              rw [hO', decide_eq_true (by omega)]
              rfl, fun i y z hi hy hz => HR.out i y z hi hy hz⟩
          simp only [errOf]
          go_wp2_with (first
            | (apply SeqP.skip; rfl; simp only [Act.put, List.setIfInBounds_toArray, List.set_cons_zero, List.set_cons_succ])
            | (apply SeqP.call; rfl; rfl; (intro w2 hw; have hw := hTP _ hw; ((obtain ⟨q0, q1, q2, q3, q4, q5⟩ := FA _ hw; obtain ⟨p0, p1, p2, p3, p4, p5⟩ := FY _ hw)); go_simp; exact ⟨rfl, rfl⟩); (intro w2 hw; have hw := hTP _ hw; ((obtain ⟨q0, q1, q2, q3, q4, q5⟩ := FA _ hw; obtain ⟨p0, p1, p2, p3, p4, p5⟩ := FY _ hw)); (first | fail)); simp only [Act.put, List.setIfInBounds_toArray, List.set_cons_zero, List.set_cons_succ])
            | (apply SeqP.pure; rfl; (intro w2 hw; have hw := hTP _ hw; ((obtain ⟨q0, q1, q2, q3, q4, q5⟩ := FA _ hw; obtain ⟨p0, p1, p2, p3, p4, p5⟩ := FY _ hw)); go_simp; with_reducible rfl); simp only [Act.put, List.setIfInBounds_toArray, List.set_cons_zero, List.set_cons_succ])
            | (apply SeqP.split; rfl; rfl; all_goals (intro hc; simp only [hc]; try simp only [beq_iff_eq, decide_eq_true_eq, beq_eq_false_iff_ne, decide_eq_false_iff_not, bne_iff_ne, ne_eq, Bool.not_eq_true', Bool.not_eq_false', Int.not_le, Int.not_lt, bne_eq_false_iff_eq, Bool.or_eq_true, Bool.and_eq_true, Bool.or_eq_false_iff] at hc)))
          all_goals first | (exfalso; omega) | skip
          apply SeqP.nil
          refine hKP _ _ (hTP' _ (hB1)) ?_
          clear hKP hTP hTP'
          go_wp2_with fail
          go_roundg (l.length - (j + 1))
          case measure => have hkk := AA.out.1; omega
          case rel => exact ⟨j + 1, rfl, by omega, by go_num, HT.out, hB1⟩
    · obtain rfl : j = l.length := by omega
      have hall : okLog l v = true := (okLog_iff _ _).2 ⟨h64', by have := AA.out.2.1; rwa [List.take_length] at this, (rises_iff _).2 fun i x y hx hy => AA.out.2.2 i x y (List.getElem?_eq_some_iff.1 hy).1 hx hy⟩
      have HN := Lib.hid hall
      clear hall
      go_wp2_with fail
      go_ret
      rw [HN.out]
      exact ⟨rfl, hB⟩

set_option maxHeartbeats 4000000 in
theorem rcheck15_any (r : RegS) (sl : SlcE) (w : World) (hl : LogAt w w.heap.size sl r.log) :
    Calls Try.prog 19 #[.agg (rgv r sl).toArray] w fun e w' => e = .returned (.bool (mayR r)) ∧ Below w.heap.size w w' := by
  obtain ⟨p, v, lg, k⟩ := r
  obtain ⟨A, n, c⟩ := sl
  obtain rfl : n = lg.length := hl.1
  have hc2 : lg.length ≤ 9223372036854775807 := Nat.le_trans hl.2.1 hl.2.2.1
  have HE := Lib.hid hl.2.2.2
  clear hl
  unfold rgv
  have hw := Below.refl w.heap.size w
  have hb0 : Below w.heap.size w (w.alloc (.cells #[.int .i64 p, .int .i64 v, .slice A lg.length c, .int .i64 k] 24)) := hw.alloc (Nat.le_refl _) _
  by_cases h1 : 0 ≤ v
  case neg =>
    have HN := Lib.hid (mayR_no (r := ⟨p, v, lg, k⟩) (fun h => h1 h.1.1))
    go_enter Try.func19, Try.ntmps19
    go_wp2_with fail
    go_ret
    rw [HN.out]
    exact ⟨rfl, hb0⟩
  by_cases h2 : v ≤ p
  case neg =>
    have HN := Lib.hid (mayR_no (r := ⟨p, v, lg, k⟩) (fun h => h2 h.1.2.1))
    go_enter Try.func19, Try.ntmps19
    go_wp2_with fail
    go_ret
    rw [HN.out]
    exact ⟨rfl, hb0⟩
  by_cases h3 : p ≤ 1048576
  case neg =>
    have HN := Lib.hid (mayR_no (r := ⟨p, v, lg, k⟩) (fun h => h3 h.1.2.2))
    go_enter Try.func19, Try.ntmps19
    go_wp2_with fail
    go_ret
    rw [HN.out]
    exact ⟨rfl, hb0⟩
  have HH := Lib.hid (And.intro hb0 (Blk.new w 24 [.int .i64 p, .int .i64 v, .slice A lg.length c, .int .i64 k]))
  clear hb0
  go_enter Try.func19, Try.ntmps19
  go_wp2_with fail
  refine (rlog_any lg A c v _ ((HE.out.below HH.out.1).more HH.out.1.size) hc2).mono ?_
  rintro e w1 ⟨rfl, hb⟩
  have hw1 := below_trans HH.out.1 hb HH.out.1.size
  have B1 := HH.out.2.keep hb
  clear hb HH
  cases hO : okLog lg v with
  | false =>
    have HN := Lib.hid (mayR_no (r := ⟨p, v, lg, k⟩) (fun h => by have := h.2.1; dsimp only at this; rw [hO] at this; cases this))
    clear hO
    go_wp2_with fail
    go_ret
    rw [HN.out]
    exact ⟨rfl, hw1⟩
  | true =>
    have c2 := B1.cell 2
    have c3 := B1.cell 3
    simp at c2 c3
    have HO := Lib.hid hO
    clear hO
    by_cases h4 : 0 ≤ k
    case neg =>
      have HN := Lib.hid (mayR_no (r := ⟨p, v, lg, k⟩) (fun h => h4 h.2.2.1))
      go_wp2_with fail
      go_ret
      rw [HN.out]
      exact ⟨rfl, hw1⟩
    by_cases h5 : k ≤ (lg.length : Int)
    case neg =>
      have HN := Lib.hid (mayR_no (r := ⟨p, v, lg, k⟩) (fun h => h5 h.2.2.2))
      have d5 : decide (k ≤ (lg.length : Int)) = false := decide_eq_false h5
      go_wp2_with fail
      go_ret
      rw [HN.out]
      exact ⟨rfl, hw1⟩
    have HN := Lib.hid ((mayR_iff ⟨p, v, lg, k⟩).2 ⟨⟨h1, h2, h3⟩, HO.out, h4, h5⟩)
    have d5 : decide (k ≤ (lg.length : Int)) = true := decide_eq_true h5
    go_wp2_with fail
    go_ret
    rw [HN.out]
    exact ⟨rfl, hw1⟩
end Go.Proofs.Ytbicefilfhcgoaa

set_option linter.unusedSimpArgs false
set_option linter.unusedVariables false
set_option maxRecDepth 100000
namespace Go.Proofs.Ytbicefilfhcgoaa
open Go Go.RowKit Go.Sq Go.Wd Go.Arch

structure MailV where
  m : MailS
  es : SlcE
  o : Int × Int × Int × Int × Int
  an : Int × Int × Int
def mailv (x : MailV) : List Value := [.int .i64 x.m.kind, .int .i64 x.m.from_, .int .i64 x.m.to, .int .i64 x.m.stream, .int .i64 x.m.epoch, .int .i64 x.m.view, .int .i64 x.m.base, .int .i64 x.m.len, .int .i64 x.m.stamp,
  .slice x.es.1 x.es.2.1 x.es.2.2, .int .i64 x.o.1, .int .i64 x.o.2.1, .int .i64 x.o.2.2.1, .int .i64 x.o.2.2.2.1, .int .i64 x.o.2.2.2.2, .int .i64 x.an.1, .int .i64 x.an.2.1, .int .i64 x.an.2.2]
theorem mail_len (x : MailV) : (mailv x).length = 18 := rfl
theorem mail_one (x : MailV) : ∀ v ∈ mailv x, v.oneCell' = true := fun v hv => by
  simp only [mailv, List.mem_cons, List.not_mem_nil, or_false] at hv
  rcases hv with rfl | rfl | rfl | rfl | rfl | rfl | rfl | rfl | rfl | rfl | rfl | rfl | rfl | rfl | rfl | rfl | rfl | rfl <;> rfl
def mailE : Gr.Enc Try.prog MailV where
  elem := 65
  slice := 54
  size := 18
  bytes := 160
  zero := .agg #[.int .i64 0, .int .i64 0, .int .i64 0, .int .i64 0, .int .i64 0, .int .i64 0, .int .i64 0, .int .i64 0, .int .i64 0, .slice none 0 0, .int .i64 0, .int .i64 0, .int .i64 0, .int .i64 0, .int .i64 0, .int .i64 0, .int .i64 0, .int .i64 0]
  enc := mailv
  len := mail_len
  one := mail_one
  pos := by omega
  und := Try.underlying54
  info := by kernel_rfl
  zs := rfl
  few := by omega
theorem mail_info : (Try.prog.info? 65).map (·.size) = some 18 := by kernel_rfl
/-- A slice of mail: each piece, and its entries. -/
def Mails (w : World) (B : Nat) (A : Option Addr) (l : List MailV) : Prop := Gr.Sl mailE w B A l ∧ ∀ x ∈ l, LogAt w B x.es x.m.ents
section
variable {w w' : World} {B B' : Nat} {A : Option Addr} {l : List MailV}
theorem Mails.below (h : Mails w B A l) (hb : Below B w w') : Mails w' B A l := ⟨h.1.below hb, fun x hx => (h.2 x hx).below hb⟩
theorem Mails.more (h : Mails w B A l) (hB : B ≤ B') : Mails w B' A l := ⟨h.1.more hB, fun x hx => (h.2 x hx).more hB⟩
theorem Mails.keep (h : Mails w w.heap.size A l) (hb : Below w.heap.size w w') : Mails w' w'.heap.size A l := (h.below hb).more hb.size
theorem Mails.nil : Mails w B A [] := ⟨Gr.Sl.nil, by simp⟩
/-- The k-th piece of mail. -/
theorem Mails.at_ (h : Mails w B A l) {k : Nat} (hk : k < l.length) : ∃ b off x, A = some ⟨b, off, none⟩ ∧ Hid (l[k]? = some x) ∧ b < B ∧ (∀ w', Below B w w' → ∀ j, j < 18 → w'.cell? ⟨b, off + k * 18 + j, none⟩ = (mailv x)[j]?) ∧ Hid (LogAt w B x.es x.m.ents) := by
  obtain ⟨b, off, e, ha, he, hb, hc⟩ := h.1.at_ hk
  exact ⟨b, off, e, ha, he, hb, fun w' hw j hj => hc w' hw j hj, Lib.hid (h.2 e (List.mem_of_getElem? he.out))⟩
end
end Go.Proofs.Ytbicefilfhcgoaa

set_option linter.unusedSimpArgs false
set_option linter.unusedVariables false
set_option maxRecDepth 100000
namespace Go.Gr
open Go Go.RowKit Go.Wd
theorem Row.lit {P : Program} {α : Type} {R : Enc P α} (w : World) (l : List α) (hm : l.length ≤ maxLen) : Row R (w.alloc (.cells (R.flat l).toArray R.elem)) w.heap.size (.slice (some ⟨w.heap.size, 0, none⟩) l.length l.length) l :=
  ⟨R.flat_len l, .inr ⟨w.heap.size, l.length, (R.flat l).toArray, rfl, Nat.le_refl _, heap_alloc_new w _, Nat.le_refl _, hm, by simp [R.flat_len], by rw [← R.flat_len l]; simp⟩⟩
end Go.Gr
namespace Go.Proofs.Ytbicefilfhcgoaa
open Go Go.RowKit Go.Sq Go.Wd Go.Arch

theorem Kept.ofGrown2 {w w' : World} {r1 r2 : Option Nat} (h : w.grownBy w' r2) : Kept w w' r1 r2 := ⟨h.os, h.tape, h.output, h.size, fun k hk _ a => h.block k hk a⟩
/-- One that has promised. -/
structure OneV where
  site : Int
  r : RegS
  s : SlcE
def onev (x : OneV) : List Value := [.int .i64 x.site, .int .i64 x.r.prom, .int .i64 x.r.view, .slice x.s.1 x.s.2.1 x.s.2.2, .int .i64 x.r.com]
theorem onev_one (x : OneV) : ∀ v ∈ onev x, v.oneCell' = true := fun v hv => by
  simp only [onev, List.mem_cons, List.not_mem_nil, or_false] at hv
  rcases hv with rfl | rfl | rfl | rfl | rfl <;> rfl
def oneE : Gr.Enc Try.prog OneV where
  elem := 97
  slice := 80
  size := 5
  bytes := 56
  zero := .agg #[.int .i64 0, .int .i64 0, .int .i64 0, .slice none 0 0, .int .i64 0]
  enc := onev
  len := fun _ => rfl
  one := onev_one
  pos := by omega
  und := Try.underlying80
  info := by kernel_rfl
  zs := rfl
  few := by omega
theorem one_info : (Try.prog.info? 97).map (·.size) = some 5 := by kernel_rfl
def refv (b : BegS) (v : Value) : List Value := [.int .i64 b.stream, .int .i64 b.epoch, .int .i64 b.site, .int .i64 b.n, .int .i64 b.stamp, v]
/-- The document's ballot at block g. -/
def RefAt (w : World) (B g : Nat) (b : BegS) (L : List OneV) (v : Value) : Prop := Blk w g 82 (refv b v) ∧ Gr.Row oneE w B v L
def prL (L : List OneV) : List (Int × RegS) := L.map fun x => (x.site, x.r)
theorem prL_len (L : List OneV) : (prL L).length = L.length := by unfold prL; rw [List.length_map]
section
variable {w w' : World} {B g : Nat} {b : BegS} {L : List OneV} {v : Value}
theorem RefAt.lt (h : RefAt w B g b L v) : g < w.heap.size := h.1.lt
theorem RefAt.kept {r1 r2 : Option Nat} (h : RefAt w B g b L v) (hk : Kept w w' r1 r2) (h1 : some g ≠ r1) (h2 : some g ≠ r2)
    (n1 : ∀ q, r1 = some q → ∀ cs, w.heap[q]? ≠ some (.cells cs 97 (0, 0))) (n2 : ∀ q, r2 = some q → ∀ cs, w.heap[q]? ≠ some (.cells cs 97 (0, 0))) : RefAt w' B g b L v :=
  ⟨hk.blk h.1 h1 h2, hk.own h.2 n1 n2⟩
theorem RefAt.keep (h : RefAt w B g b L v) (hb : Below w.heap.size w w') : RefAt w' B g b L v :=
  h.kept (Kept.ofBelow hb none none) (by simp) (by simp) (fun q e => by cases e) (fun q e => by cases e)
end

set_option maxHeartbeats 2000000 in
theorem rwon_any (B g : Nat) (b : BegS) (L : List OneV) (v : Value) (w : World) (H : RefAt w B g b L v) (hn : sitesE b.n = true) :
    Calls Try.prog 41 #[.pointer (some ⟨g, 0, none⟩)] w fun e w' => e = .returned (.bool (decide (majE b.n ≤ (L.length : Int)))) ∧ Below w.heap.size w w' := by
  obtain ⟨hb, hR⟩ := H
  obtain ⟨A, c, rfl, _, _, _⟩ := Gr.Row.form hR
  have hw : Below w.heap.size w w := Below.refl _ _
  have hmaj : majE b.n = b.n / 2 + 1 := if_pos hn
  have FC : ∀ w', Below w.heap.size w w' → w'.cell? ⟨g, 3, none⟩ = some (.int .i64 b.n) ∧ w'.cell? ⟨g, 5, none⟩ = some (.slice A L.length c) := fun w' h => ⟨(hb.keep h).cell 3, (hb.keep h).cell 5⟩
  have hg := hb.lt
  have HM := Lib.hid hmaj
  clear hb hR hmaj
  generalize L.length = k at FC HM ⊢
  rcases sites_cases hn with e | e | e | e | e | e
  all_goals
    rw [e] at FC
    have HE := Lib.hid (HM.out.trans (congrArg (fun z : Int => z / 2 + 1) e))
    clear HM hn e
    go_enter Try.func41, Try.ntmps41
    go_wp2_with fail
    refine wp_region_p ([(0, true), (1, true), (2, true), (3, true), (4, true), (5, true), (6, true), (7, true), (8, true), (9, true), (10, true), (11, true), (12, true)]) (fun w' => Below w.heap.size w w') (by kernel_rfl) rfl (by kernel_rfl) (by kernel_rfl) (hw.drew) rfl ?_
    intro KP RP TP hKP hTP hTP'
    simp only [List.append_eq, List.cons_append, List.nil_append, pick, nth]
    go_wp2_with (first
      | (apply SeqP.skip; rfl; simp only [Act.put, List.setIfInBounds_toArray, List.set_cons_zero, List.set_cons_succ])
      | (apply SeqP.call; rfl; rfl; (intro w2 hw; have hw := hTP _ hw; ((obtain ⟨q3, q5⟩ := FC _ hw)); go_simp; exact ⟨rfl, rfl⟩); (intro w2 hw; have hw := hTP _ hw; ((obtain ⟨q3, q5⟩ := FC _ hw)); (first | fail)); simp only [Act.put, List.setIfInBounds_toArray, List.set_cons_zero, List.set_cons_succ])
      | (apply SeqP.pure; rfl; (intro w2 hw; have hw := hTP _ hw; ((obtain ⟨q3, q5⟩ := FC _ hw)); go_simp; with_reducible rfl); simp only [Act.put, List.setIfInBounds_toArray, List.set_cons_zero, List.set_cons_succ])
      | (apply SeqP.split; rfl; rfl; all_goals (intro hc; simp only [hc]; try simp only [beq_iff_eq, decide_eq_true_eq, beq_eq_false_iff_ne, decide_eq_false_iff_not, bne_iff_ne, ne_eq, Bool.not_eq_true', Bool.not_eq_false', Int.not_le, Int.not_lt, bne_eq_false_iff_eq, Bool.or_eq_true, Bool.and_eq_true, Bool.or_eq_false_iff] at hc)))
    apply SeqP.nil
    refine hKP _ _ (hTP' _ (hw.drew)) ?_
    clear hKP hTP hTP'
    go_wp2_with fail
    go_ret
    rw [HE.out]
    exact ⟨ret_bool (by first | rfl | simp), hw.drew⟩

theorem rbetter_any (x y : OneV) (w : World) (hx : x.s.2.1 = x.r.log.length) (hy : y.s.2.1 = y.r.log.length) :
    Calls Try.prog 58 #[.agg (onev x).toArray, .agg (onev y).toArray] w fun e w' => e = .returned (.bool (decide (BetterD (x.site, x.r) (y.site, y.r)))) ∧ Below w.heap.size w w' := by
  obtain ⟨bb, hbb, hiff⟩ : ∃ bb : Bool, decide (BetterD (x.site, x.r) (y.site, y.r)) = bb ∧ (bb = true ↔ (y.r.view < x.r.view ∨ (y.r.view = x.r.view ∧ ((y.s.2.1 : Int) < (x.s.2.1 : Int) ∨ ((y.s.2.1 : Int) = (x.s.2.1 : Int) ∧ x.site < y.site))))) := by
    refine ⟨_, rfl, ?_⟩
    rw [hx, hy, decide_eq_true_eq]
    unfold BetterD
    simp only
    omega
  rw [hbb]
  clear hx hy hbb
  have HI := Lib.hid hiff
  clear hiff
  have hw := Below.refl w.heap.size w
  unfold onev
  generalize x.s.2.1 = n at *
  generalize y.s.2.1 = m at *
  generalize x.r.view = u at *
  generalize y.r.view = v at *
  generalize x.site = p at *
  generalize y.site = q at *
  go_enter Try.func58, Try.ntmps58
  go_wp2
  all_goals (go_ret; refine ⟨ret_bool ?_, by (repeat (first | with_reducible apply Below.drew | with_reducible refine Below.setCell ?_ (by first | exact Nat.le_refl _ | (simp; done) | (simp; omega) | omega) _ | with_reducible refine Below.alloc ?_ (by first | exact Nat.le_refl _ | (simp; done) | (simp; omega) | omega) _ | with_reducible exact Below.refl _ _ | with_reducible assumption))⟩)
  all_goals (try simp only [beq_iff_eq, decide_eq_true_eq, beq_eq_false_iff_ne, decide_eq_false_iff_not, bne_iff_ne, ne_eq, Bool.not_eq_true', Bool.not_eq_false', Int.not_le, Int.not_lt, not_false_eq_true, bne_eq_false_iff_eq] at *)
  all_goals (have hi := HI.out; clear HI; rw [Bool.eq_iff_iff, hi]; simp only [decide_eq_true_eq]; omega)
end Go.Proofs.Ytbicefilfhcgoaa

set_option linter.unusedSimpArgs false
set_option linter.unusedVariables false
set_option maxRecDepth 100000
namespace Go.Proofs.Ytbicefilfhcgoaa
open Go Go.RowKit Go.Sq Go.Wd Go.Arch

set_option maxHeartbeats 2000000 in
theorem won_any (g : Nat) (b : BegS) (S : Slots) (sl : Sls) (w : World) (hb : Blk w g 85 (balv b S sl)) (hn : b.n ≠ 0) :
    Calls Try.prog 33 #[.pointer (some ⟨g, 0, none⟩)] w fun e w' => e = .returned (.bool (wonS b S)) ∧ Below w.heap.size w w' := by
  have hw : Below w.heap.size w w := Below.refl _ _
  have hz : (b.n == 0) = false := by rw [beq_eq_false_iff_ne]; exact hn
  have H := Lib.hid hb
  have FC : ∀ w', Below w.heap.size w w' → w'.cell? ⟨g, 3, none⟩ = some (.int .i64 b.n) := fun w' h => (H.out.keep h).cell 3
  have hg := hb.lt
  clear hb hn
  go_enter Try.func33, Try.ntmps33
  go_wp2_with fail
  refine wp_region_p ([(0, true), (1, true), (2, true), (3, true), (4, true), (7, true), (8, true), (9, true), (10, true), (5, false), (6, true), (11, true), (12, true), (13, true), (14, true)]) (fun w' => Below w.heap.size w w') (by kernel_rfl) rfl (by kernel_rfl) (by kernel_rfl) (hw.drew) rfl ?_
  intro KP RP TP hKP hTP hTP'
  simp only [pick, nth]
  go_wp2_with (first
    | (apply SeqP.skip; rfl; simp only [Act.put, List.setIfInBounds_toArray, List.set_cons_zero, List.set_cons_succ])
    | (apply SeqP.call; rfl; rfl; (intro w2 hw; have hw := hTP _ hw; ((have q3 := FC _ hw)); go_simp; exact ⟨rfl, rfl⟩); (intro w2 hw; have hw := hTP _ hw; ((have q3 := FC _ hw)); (first | (go_at_call 52; refine (none_any g b.n _ (FC _ hw)).mono ?_; rintro e w' ⟨rfl, rfl⟩; exact ⟨rfl, rfl⟩) | (go_at_call 36; refine (maj_any _ _).mono ?_; rintro e w' ⟨rfl, rfl⟩; exact ⟨rfl, rfl⟩))); simp only [Act.put, List.setIfInBounds_toArray, List.set_cons_zero, List.set_cons_succ])
    | (apply SeqP.pure; rfl; (intro w2 hw; have hw := hTP _ hw; ((have q3 := FC _ hw)); go_simp; with_reducible rfl); simp only [Act.put, List.setIfInBounds_toArray, List.set_cons_zero, List.set_cons_succ])
    | (apply SeqP.split; rfl; rfl; all_goals (intro hc; simp only [hc]; try simp only [beq_iff_eq, decide_eq_true_eq, beq_eq_false_iff_ne, decide_eq_false_iff_not, bne_iff_ne, ne_eq, Bool.not_eq_true', Bool.not_eq_false', Int.not_le, Int.not_lt, bne_eq_false_iff_eq, Bool.or_eq_true, Bool.and_eq_true, Bool.or_eq_false_iff] at hc)))
  apply SeqP.eff
  · rfl
  intro KE hKE
  go_wp2_with fail
  refine (list_any g b S sl _ (H.out.keep hw.drew)).mono ?_
  rintro e w1 ⟨v, rfl, hR, hb⟩
  have hw1 := below_trans hw.drew hb hw.drew.size
  obtain ⟨A, c, rfl, _, _, _⟩ := Gr.Row.form hR
  rw [listV_len S sl 7]
  refine hKE _ _ (hTP' _ hw1) ?_
  clear hKE hb hR
  have HW := Lib.hid (show wonS b S = decide (majE b.n ≤ ((listTo S 7).length : Int)) from rfl)
  generalize (listTo S 7).length = L at HW ⊢
  go_wp2_with (first
    | (apply SeqP.skip; rfl; simp only [Act.put, List.setIfInBounds_toArray, List.set_cons_zero, List.set_cons_succ])
    | (apply SeqP.call; rfl; rfl; (intro w2 hw; have hw := hTP _ hw; ((have q3 := FC _ hw)); go_simp; exact ⟨rfl, rfl⟩); (intro w2 hw; have hw := hTP _ hw; ((have q3 := FC _ hw)); (first | (go_at_call 52; refine (none_any g b.n _ (FC _ hw)).mono ?_; rintro e w' ⟨rfl, rfl⟩; exact ⟨rfl, rfl⟩) | (go_at_call 36; refine (maj_any _ _).mono ?_; rintro e w' ⟨rfl, rfl⟩; exact ⟨rfl, rfl⟩))); simp only [Act.put, List.setIfInBounds_toArray, List.set_cons_zero, List.set_cons_succ])
    | (apply SeqP.pure; rfl; (intro w2 hw; have hw := hTP _ hw; ((have q3 := FC _ hw)); go_simp; with_reducible rfl); simp only [Act.put, List.setIfInBounds_toArray, List.set_cons_zero, List.set_cons_succ])
    | (apply SeqP.split; rfl; rfl; all_goals (intro hc; simp only [hc]; try simp only [beq_iff_eq, decide_eq_true_eq, beq_eq_false_iff_ne, decide_eq_false_iff_not, bne_iff_ne, ne_eq, Bool.not_eq_true', Bool.not_eq_false', Int.not_le, Int.not_lt, bne_eq_false_iff_eq, Bool.or_eq_true, Bool.and_eq_true, Bool.or_eq_false_iff] at hc)))
  apply SeqP.nil
  refine hKP _ _ (hTP' _ (hw1)) ?_
  clear hKP hTP hTP'
  go_wp2_with fail
  go_ret
  rw [HW.out]
  exact ⟨ret_bool (by first | rfl | simp), hw1⟩
def sitesTo (S : Slots) (j : Nat) : List Int := (List.range j).filterMap fun i => (S i).map fun _ => (i : Int)
theorem sitesTo_some {S : Slots} {j : Nat} {r : RegS} (h : S j = some r) : sitesTo S (j + 1) = sitesTo S j ++ [(j : Int)] := by
  unfold sitesTo
  rw [List.range_succ, List.filterMap_append]
  simp [h]
theorem sitesTo_none {S : Slots} {j : Nat} (h : S j = none) : sitesTo S (j + 1) = sitesTo S j := by
  unfold sitesTo
  rw [List.range_succ, List.filterMap_append]
  simp [h]
theorem sitesTo_len (S : Slots) (j : Nat) : (sitesTo S j).length = (listTo S j).length := by
  induction j with
  | zero => rfl
  | succ j ih =>
    cases h : S j with
    | none => rw [sitesTo_none h, listTo_none h, ih]
    | some r => rw [sitesTo_some h, listTo_some h, List.length_append, List.length_append, ih]; rfl

set_option maxHeartbeats 2000000 in
theorem bsites_any (g : Nat) (b : BegS) (S : Slots) (sl : Sls) (w : World) (hb : Blk w g 85 (balv b S sl)) (hn : b.n ≠ 0) :
    Calls Try.prog 42 #[.pointer (some ⟨g, 0, none⟩)] w fun e w' => ∃ v, e = .returned v ∧ RowI w' w.heap.size v (sitesTo S 7) ∧ Below w.heap.size w w' := by
  have hw : Below w.heap.size w w := Below.refl _ _
  have hz : (b.n == 0) = false := by rw [beq_eq_false_iff_ne]; exact hn
  have hg := hb.lt
  have c3 : w.cell? ⟨g, 3, none⟩ = some (.int .i64 b.n) := hb.cell 3
  have H := Lib.hid hb
  clear hb hn
  go_enter Try.func42, Try.ntmps42
  go_wp2_with fail
  refine (none_any g b.n w c3).mono ?_
  rintro e w1 ⟨rfl, rfl⟩
  rw [hz]
  clear c3
  go_wp2_with ((with_reducible refine at_list ?_); refine wpList_load_part rfl 60 _ rfl g 5 rfl _ _ (hadv S) H.out (balv_hads b S sl) _ Try.underlying60 rfl had7_info ?_)
  go_loopg [3, 12] 7 (fun q v i wr => ∃ j : Nat, q = 7 - j ∧ j ≤ 7 ∧ i = .int .i64 j ∧ Below w1.heap.size w1 wr ∧ RowI wr w1.heap.size v (sitesTo S j))
  case atStart => exact ⟨0, rfl, by omega, rfl, hw, RowI.nil w1 _⟩
  case round =>
    clear hw
    obtain ⟨j, hq, hj, rfl, hwr, hR⟩ := hrel
    have AA : Aside (gk = 7 - j) := hq
    clear hq
    by_cases hlt : j < 7
    · have hi7 : (j : Int) < 7 := by omega
      have hi0 : (0 : Int) ≤ (j : Int) := by omega
      have hix := idxS S j hlt wr
      cases hS : S j with
      | none =>
        have HS := Lib.hid hS
        rw [hS] at hix
        clear hS
        have hix' : (Instr.index 60 (.agg (hadv S).toArray) (.int .i64 (j : Int))).run Try.prog wr = .ok (.bool false) wr := hix
        clear hix
        go_wp2_with fail
        go_roundg (7 - (j + 1))
        case measure => have hkk := AA.out; omega
        case rel => exact ⟨j + 1, rfl, by omega, by go_num, hwr, by rw [sitesTo_none HS.out]; exact hR⟩
      | some r =>
        have HS := Lib.hid hS
        rw [hS] at hix
        clear hS
        have hix' : (Instr.index 60 (.agg (hadv S).toArray) (.int .i64 (j : Int))).run Try.prog wr = .ok (.bool true) wr := hix
        clear hix
        have hl7 := sitesTo_len S j
        have hl8 := listTo_len S j
        have hW : Below w1.heap.size w1 (wr.alloc (.cells #[.int .i64 (j : Int)] 3)) := hwr.alloc hwr.size _
        obtain ⟨v2, w2, hrun, hO2, hg2, _⟩ := append_one (P := Try.prog) (W := wr) 78 Try.underlying78 int_info rfl (by omega) hR [.int .i64 (j : Int)] rfl (by simp [Value.oneCell']) (by simp only [maxLen]; omega) (by omega) hwr.size rfl
        have hb2 := below_own hwr hg2 hR hwr.size
        clear hg2 hR hl7 hl8 hW
        go_wp2_with (at_builtin; refine wpList_app rfl (by rfl) (by rfl) (by rfl) hrun ?_)
        go_roundg (7 - (j + 1))
        case measure => have hkk := AA.out; omega
        case rel =>
          refine ⟨j + 1, rfl, by omega, by go_num, hb2, ?_⟩
          rw [sitesTo_some HS.out]
          unfold RowI
          rw [List.length_append, List.map_append]
          exact hO2
    · have hj' : j = 7 := by omega
      subst hj'
      clear hlt
      go_wp2_with fail
      go_ret
      exact ⟨_, rfl, hR, hwr⟩
end Go.Proofs.Ytbicefilfhcgoaa

set_option linter.unusedSimpArgs false
set_option linter.unusedVariables false
set_option maxRecDepth 100000
namespace Go.Proofs.Ytbicefilfhcgoaa
open Go Go.RowKit Go.Sq Go.Wd Go.Arch

theorem grown_setCells {g : Nat} : ∀ (vs : List Value) (o : Nat) (w : World), w.grownBy (w.setCells g o vs) (some g)
  | [], _, w => World.grownBy.refl w _
  | v :: r, o, w => by
    have h1 : w.grownBy (w.setCell ⟨g, o, none⟩ v) (some g) := by (repeat (first | with_reducible apply only_drew | with_reducible refine only_setCell ?_ (by first | exact Or.inl rfl | (right; simp; done) | (right; simp; omega) | (right; omega)) _ | with_reducible refine only_alloc ?_ _ | with_reducible exact World.grownBy.refl _ _ | with_reducible assumption))
    exact only_trans h1 (grown_setCells r (o + 1) (w.setCell ⟨g, o, none⟩ v))

theorem rgvc_one (r : RegS) (sl : SlcE) : ∀ v ∈ rgv r sl, v.oneCell' = true := by simp [rgv, Value.oneCell']

set_option maxHeartbeats 2000000 in
theorem put_any (g k : Nat) (b : BegS) (S : Slots) (sl : Sls) (r : RegS) (s : SlcE) (w : World) (hb : Blk w g 85 (balv b S sl)) (hk : k < 7) (hl : LogAt w w.heap.size s r.log) (h2 : r.log.length ≤ 2000) :
    Calls Try.prog 51 #[.pointer (some ⟨g, 0, none⟩), .int .i64 (k : Int), .agg (rgv r s).toArray] w fun e w' => e = .returned (.tuple #[]) ∧ ∃ s' : SlcE, Blk w' g 85 (balv b (put7 S k r) (upS sl k s')) ∧ Row w' w.heap.size (slw s') r.log ∧ Kept w w' (some g) none := by
  have hz : Below w.heap.size w (w.alloc (.cells (rgv r s).toArray 24)) := (Below.refl _ _).alloc (Nat.le_refl _) _
  have BR := Blk.new w 24 (rgv r s)
  have hg := hb.lt
  have HH := Lib.hid (And.intro hz (And.intro (hb.keep hz) (hl.keep hz)))
  clear hz hb hl
  have hi7 : (k : Int) < 7 := by omega
  have hi0 : (0 : Int) ≤ (k : Int) := by omega
  go_enter Try.func51, Try.ntmps51
  go_wp2_with fail
  refine wp_region_p ([(0, true), (1, true), (2, true), (3, true), (4, true), (6, true), (7, true), (10, true), (11, true), (5, false), (8, true), (9, false), (12, true), (13, false)]) (fun w' => Blk w' w.heap.size 24 (rgv r s)) (by kernel_rfl) rfl (by kernel_rfl) (by kernel_rfl) (BR.drew) rfl ?_
  intro KP RP TP hKP hTP hTP'
  simp only [pick, nth]
  go_wp2_with (first
    | (apply SeqP.skip; rfl; simp only [Act.put, List.setIfInBounds_toArray, List.set_cons_zero, List.set_cons_succ])
    | (apply SeqP.pure; rfl; (intro w2 hw; have hw := hTP _ hw; exact exec_load_blk 24 _ rfl _ rfl _ _ hw _ Try.underlying24 rfl rg_info); simp only [Act.put, List.setIfInBounds_toArray, List.set_cons_zero, List.set_cons_succ])
    | (apply SeqP.call; rfl; rfl; (intro w2 hw; have hw := hTP _ hw; (skip); go_simp; exact ⟨rfl, rfl⟩); (intro w2 hw; have hw := hTP _ hw; (skip); (first | fail)); simp only [Act.put, List.setIfInBounds_toArray, List.set_cons_zero, List.set_cons_succ])
    | (apply SeqP.pure; rfl; (intro w2 hw; have hw := hTP _ hw; (skip); go_simp; with_reducible rfl); simp only [Act.put, List.setIfInBounds_toArray, List.set_cons_zero, List.set_cons_succ])
    | (apply SeqP.split; rfl; rfl; all_goals (intro hc; simp only [hc]; try simp only [beq_iff_eq, decide_eq_true_eq, beq_eq_false_iff_ne, decide_eq_false_iff_not, bne_iff_ne, ne_eq, Bool.not_eq_true', Bool.not_eq_false', Int.not_le, Int.not_lt, bne_eq_false_iff_eq, Bool.or_eq_true, Bool.and_eq_true, Bool.or_eq_false_iff] at hc)))
  apply SeqP.eff
  · rfl
  intro KE hKE
  go_wp2_with fail
  refine (regclone_any r s _ (HH.out.2.2.keep (Below.refl _ _).drew) h2).mono ?_
  rintro e w1 ⟨s', rfl, hR, hb⟩
  have hbz := Below.drew (HH.out.1)
  have hw1 := below_trans hbz hb hbz.size
  have B1 := HH.out.2.1.drew.keep hb
  have R1 := BR.drew.keep hb
  have hR1 := hR.base (B' := w.heap.size) (by simp)
  refine hKE _ _ (hTP' _ R1) ?_
  clear hKE hb hR BR HH hbz
  have hc := B1.cell (5 + k)
  rw [balv_had b S sl hk] at hc
  have fr := B1.frozen
  go_wp2_with (first
    | (apply SeqP.skip; rfl; simp only [Act.put, List.setIfInBounds_toArray, List.set_cons_zero, List.set_cons_succ])
    | (apply SeqP.call; rfl; rfl; (intro w2 hw; have hw := hTP _ hw; (skip); go_simp; exact ⟨rfl, rfl⟩); (intro w2 hw; have hw := hTP _ hw; (skip); (first | fail)); simp only [Act.put, List.setIfInBounds_toArray, List.set_cons_zero, List.set_cons_succ])
    | (apply SeqP.pure; rfl; (intro w2 hw; have hw := hTP _ hw; (skip); go_simp; with_reducible rfl); simp only [Act.put, List.setIfInBounds_toArray, List.set_cons_zero, List.set_cons_succ])
    | (apply SeqP.split; rfl; rfl; all_goals (intro hc; simp only [hc]; try simp only [beq_iff_eq, decide_eq_true_eq, beq_eq_false_iff_ne, decide_eq_false_iff_not, bne_iff_ne, ne_eq, Bool.not_eq_true', Bool.not_eq_false', Int.not_le, Int.not_lt, bne_eq_false_iff_eq, Bool.or_eq_true, Bool.and_eq_true, Bool.or_eq_false_iff] at hc)))
  apply SeqP.eff
  · rfl
  intro KE hKE
  go_wp2_with fail
  have hne : w.heap.size ≠ g := by omega
  have B2 := B1.set (5 + k) (.bool true)
  have R2 : Blk (w1.setCell ⟨g, 5 + k, none⟩ (.bool true)) w.heap.size 24 (rgv r s) := R1.far (p := ⟨g, 5 + k, none⟩) hne _
  have g2 : w1.grownBy (w1.setCell ⟨g, 5 + k, none⟩ (.bool true)) (some g) := by (repeat (first | with_reducible apply only_drew | with_reducible refine only_setCell ?_ (by first | exact Or.inl rfl | (right; simp; done) | (right; simp; omega) | (right; omega)) _ | with_reducible refine only_alloc ?_ _ | with_reducible exact World.grownBy.refl _ _ | with_reducible assumption))
  refine hKE _ _ (hTP' _ R2) ?_
  clear hKE
  go_wp2_with (first
    | (apply SeqP.skip; rfl; simp only [Act.put, List.setIfInBounds_toArray, List.set_cons_zero, List.set_cons_succ])
    | (apply SeqP.call; rfl; rfl; (intro w2 hw; have hw := hTP _ hw; (skip); go_simp; exact ⟨rfl, rfl⟩); (intro w2 hw; have hw := hTP _ hw; (skip); (first | fail)); simp only [Act.put, List.setIfInBounds_toArray, List.set_cons_zero, List.set_cons_succ])
    | (apply SeqP.pure; rfl; (intro w2 hw; have hw := hTP _ hw; (skip); go_simp; with_reducible rfl); simp only [Act.put, List.setIfInBounds_toArray, List.set_cons_zero, List.set_cons_succ])
    | (apply SeqP.split; rfl; rfl; all_goals (intro hc; simp only [hc]; try simp only [beq_iff_eq, decide_eq_true_eq, beq_eq_false_iff_ne, decide_eq_false_iff_not, bne_iff_ne, ne_eq, Bool.not_eq_true', Bool.not_eq_false', Int.not_le, Int.not_lt, bne_eq_false_iff_eq, Bool.or_eq_true, Bool.and_eq_true, Bool.or_eq_false_iff] at hc)))
  apply SeqP.eff
  · rfl
  intro KE hKE
  have B3 := B2.setCells (rgv r s') (12 + k * 4)
  have R3 := R2.setCellsFar hne (rgv r s') (12 + k * 4)
  have g3 := only_trans g2 (grown_setCells (rgv r s') (12 + k * 4) (w1.setCell ⟨g, 5 + k, none⟩ (.bool true)))
  rw [balv_put b S sl hk r s'] at B3
  have hth : (w1.setCell ⟨g, 5 + k, none⟩ (.bool true)).there g (12 + k * 4) (rgv r s').toArray.size := fun j hj => ⟨by
    have hj : j < 4 := hj
    rw [B2.cell, List.getElem?_eq_getElem (by rw [List.length_set, balv_len]; omega)]
    rfl, B2.frozen _⟩
  refine wp_store_mid 24 _ _ rfl g (12 + k * 4) (rgv r s').toArray rfl rfl hth rg_info (all_oneCell_toArray (rgvc_one r s')) ?_
  generalize ((w1.setCell ⟨g, 5 + k, none⟩ (.bool true)).setCells g (12 + k * 4) (rgv r s').toArray.toList) = w3 at *
  refine hKE _ _ (hTP' _ R3) ?_
  clear hKE
  apply SeqP.nil
  refine hKP _ _ (hTP' _ (R3)) ?_
  clear hKP hTP hTP'
  go_wp2_with fail
  refine bodyPost_end (results_none rfl _ _ _) rfl ?_
  refine ⟨rfl, s'.1, s'.2.1, s'.2.2, B3, ?_, (Kept.ofBelow hw1 _ _).trans (Kept.ofGrown g3)⟩
  exact own_beside hR1 g3 (blk_not B1 (by decide))
end Go.Proofs.Ytbicefilfhcgoaa

set_option linter.unusedSimpArgs false
set_option linter.unusedVariables false
set_option maxRecDepth 100000
namespace Go.Proofs.Ytbicefilfhcgoaa
open Go Go.RowKit Go.Sq Go.Wd Go.Arch

theorem listV_at {S : Slots} {sl : Sls} : ∀ (j k : Nat) (r : RegS), (listTo S j)[k]? = some r → ∃ i, i < j ∧ S i = some r ∧ (listV S sl j)[k]? = some (vOf r (sl i))
  | 0, k, r, h => by simp [listTo] at h
  | j + 1, k, r, h => by
    have hl := listV_len S sl j
    cases hS : S j with
    | none =>
      rw [listTo_none hS] at h
      obtain ⟨i, h1, h2, h3⟩ := listV_at j k r h
      exact ⟨i, by omega, h2, by rw [listV_none hS]; exact h3⟩
    | some q =>
      rw [listTo_some hS] at h
      rcases Nat.lt_or_ge k (listTo S j).length with hk | hk
      · rw [List.getElem?_append_left hk] at h
        obtain ⟨i, h1, h2, h3⟩ := listV_at j k r h
        exact ⟨i, by omega, h2, by rw [listV_some hS, List.getElem?_append_left (by omega)]; exact h3⟩
      · rw [List.getElem?_append_right hk] at h
        have hk0 : k - (listTo S j).length = 0 := by
          have := (List.getElem?_eq_some_iff.1 h).1
          simp at this
          omega
        rw [hk0] at h
        cases h
        exact ⟨j, by omega, hS, by rw [listV_some hS, List.getElem?_append_right (by omega), hl, hk0]; rfl⟩
theorem listV_rank {S : Slots} {sl : Sls} (h : ∀ i, i < 7 → (sl i).2.1 = (regOf S i).log.length) : ∀ j, j ≤ 7 → (listV S sl j).map rankOf = (listTo S j).map rankS
  | 0, _ => rfl
  | j + 1, hj => by
    have ih := listV_rank h j (by omega)
    cases hS : S j with
    | none => rw [listV_none hS, listTo_none hS, ih]
    | some r =>
      have h1 := h j (by omega)
      unfold regOf at h1
      rw [hS] at h1
      rw [listV_some hS, listTo_some hS, List.map_append, List.map_append, ih]
      simp only [List.map_cons, List.map_nil]
      unfold vOf rankOf rankS
      rw [h1]
      rfl
theorem regs_of {w : World} {B : Nat} {A : Option Addr} {l : List RegV} (h : Gr.Sl regE w B A l) : Regs w B A l := fun hl => by
  obtain ⟨b, off, ha, hB, hc⟩ := h hl
  refine ⟨b, off, ha, hB, fun i r hr => ?_⟩
  have hk := hc i r hr
  exact ⟨hk 0 (by show 0 < 4; omega), hk 1 (by show 1 < 4; omega), hk 2 (by show 2 < 4; omega), hk 3 (by show 3 < 4; omega)⟩
theorem row_len {w : World} {B : Nat} {s : SlcE} {l : List Ent} (h : Row w B (slw s) l) : s.2.1 = l.length := by
  obtain ⟨⟨a', n', c'⟩, he, hl⟩ := h.log
  obtain ⟨a, n, c⟩ := s
  unfold slw at he
  cases he
  exact hl.1

set_option maxHeartbeats 4000000 in
theorem chosen_any (B g : Nat) (b : BegS) (S : Slots) (w : World) (H : BalAt w B g b S) (hn : sitesE b.n = true) (hlog : ∀ i, i < 7 → (regOf S i).log.length ≤ 64) :
    Calls Try.prog 32 #[.pointer (some ⟨g, 0, none⟩)] w fun e w' => ∃ v, e = .returned (.tuple #[v, .int .i64 (chosenS b S).2.1, .int .i64 (chosenS b S).2.2]) ∧ Row w' w.heap.size v (chosenS b S).1 ∧ Below w.heap.size w w' := by
  obtain ⟨sl, hb, hr⟩ := H
  have hn0 : b.n ≠ 0 := by rcases sites_cases hn with e | e | e | e | e | e <;> omega
  have hz : (b.n == 0) = false := by rw [beq_eq_false_iff_ne]; exact hn0
  have hw : Below w.heap.size w w := Below.refl _ _
  have c3 : w.cell? ⟨g, 3, none⟩ = some (.int .i64 b.n) := hb.cell 3
  have hN := Lib.hid hn
  have HN0 := Lib.hid hn0
  have H := Lib.hid (And.intro hb (And.intro hr hlog))
  have hg := hb.lt
  clear hb hr hn hn0 hlog
  go_enter Try.func32, Try.ntmps32
  go_wp2_with fail
  refine (none_any g b.n w c3).mono ?_
  rintro e w1 ⟨rfl, rfl⟩
  rw [hz]
  clear c3
  go_wp2_with fail
  refine (won_any g b S sl _ H.out.1 HN0.out).mono ?_
  rintro e w2 ⟨rfl, hb2⟩
  cases hwon : wonS b S with
  | false =>
    have HW := Lib.hid hwon
    clear hwon
    go_wp2_with fail
    apply ret_of
    · simp only [results, Try.results32]
      go_simp
      with_reducible rfl
    refine ⟨rfl, ?_⟩
    have hc : chosenS b S = ([], 0, 4) := by
      unfold chosenS
      rw [HW.out]
      rfl
    rw [hc]
    exact ⟨_, rfl, Row.nil _ _, hb2⟩
  | true =>
    have HW := Lib.hid hwon
    clear hwon
    go_wp2_with fail
    refine (list_any g b S sl _ (H.out.1.keep hb2)).mono ?_
    rintro e w3 ⟨v, rfl, hR, hb3⟩
    have hw3 := below_trans hb2 hb3 hb2.size
    have hwin : 0 < (listTo S 7).length := by
      have h1 := HW.out
      unfold wonS majE at h1
      rw [if_pos hN.out] at h1
      simp only [decide_eq_true_eq] at h1
      rcases sites_cases hN.out with e | e | e | e | e | e <;> rw [e] at h1 <;> omega
    obtain ⟨A, c, rfl, hlc, hc2, hSl⟩ := Gr.Row.form hR
    have hll := listV_len S sl 7
    have hl7 := listTo_len S 7
    have hrk := listV_rank (S := S) (sl := sl) (fun i hi => row_len (H.out.2.1 i hi)) 7 (Nat.le_refl _)
    obtain ⟨p, hp1, hp2, hp3⟩ := bestAt_is hwin
    obtain ⟨i, hi7, hSi, hLi⟩ := listV_at (sl := sl) 7 _ _ hp2
    have hbest : bestL ((listV S sl 7).map rankOf) = ((bestAt S : Nat) : Int) := by
      rw [hrk]
      unfold bestL bestAt
      rw [List.length_map, if_neg (by omega)]
    have hbl : bestLog S = p.2.log := by
      unfold bestLog
      rw [hp2]
      rfl
    have HL := Lib.hid (And.intro hll (And.intro hl7 (And.intro hwin (And.intro hbest hbl))))
    have HS := Lib.hid (And.intro hSi hLi)
    have HSl := Lib.hid hSl
    clear hll hl7 hwin hrk hbest hbl hSi hLi hSl hp1 hp3 hR
    have HP2 := Lib.hid hp2
    clear hp2 hb3
    go_wp2_with fail
    have hb1 := best_any (listV S sl 7) A c w3 (regs_of HSl.out) (by have := HL.out.1; have := HL.out.2.1; omega)
    rw [HL.out.2.2.2.1] at hb1
    refine hb1.mono ?_
    clear hb1
    rintro e w4 ⟨rfl, hb4⟩
    have hw4 := below_trans hw3 hb4 hw3.size
    have hkl : bestAt S < (listV S sl 7).length := by
      have := (List.getElem?_eq_some_iff.1 HS.out.2).1
      exact this
    obtain ⟨bA, oA, eA, rfl, hAt, hbA, FA⟩ := Gr.Sl.at_ HSl.out hkl
    have he : eA = vOf p.2 (sl i) := by
      have := hAt.out
      rw [HS.out.2] at this
      exact (Option.some.inj this).symm
    subst he
    have q2 := FA w4 hb4 2 (by show 2 < 4; omega)
    have hk0 : (0 : Int) ≤ (bestAt S : Int) := by omega
    have hk1 : (bestAt S : Int) < ((listV S sl 7).length : Int) := by omega
    have q2' : w4.cell? ⟨bA, oA + bestAt S * 4 + 2, none⟩ = some (.slice (sl i).1 (sl i).2.1 (sl i).2.2) := q2
    have HA := Lib.hid FA
    have HAt := Lib.hid hAt
    clear q2 FA hAt
    go_wp2_with fail
    have hRi := (H.out.2.1 i hi7).keep hw4
    have hreg : regOf S i = p.2 := by
      unfold regOf
      rw [HS.out.1]
      rfl
    have h64 := H.out.2.2 i hi7
    rw [hreg] at hRi h64
    have hn1 := row_len hRi
    have hLi : LogAt w4 w4.heap.size ((sl i).1, p.2.log.length, (sl i).2.2) p.2.log := by
      have := Row.logAt (sl := sl i) hRi
      unfold LogAt at this ⊢
      exact ⟨rfl, by have h2 := this.2.1; exact h2, this.2.2.1, this.2.2.2⟩
    rw [hn1]
    refine (clone_any p.2.log (sl i).1 (sl i).2.2 w4 hLi (by omega)).mono ?_
    rintro e w5 ⟨vl, rfl, hR5, hb5⟩
    have hw5 := below_trans hw4 hb5 hw4.size
    have hb45 := below_trans hb4 hb5 hb4.size
    obtain ⟨⟨A5, n5, c5⟩, rfl, hL5⟩ := hR5.log
    obtain rfl : n5 = p.2.log.length := hL5.1
    have HR5 := Lib.hid (hR5.base (B' := w1.heap.size) hw4.size)
    clear hR5 hL5 hLi hRi hreg hn1 hb5 hb4 q2'
    generalize hnn : p.2.log.length = nn at *
    have HNN := Lib.hid hnn
    clear hnn
    go_wp2_with fail
    go_loopg [3, 26] (listV S sl 7).length (fun q cm ix wr => ∃ j : Nat, q = (listV S sl 7).length - j ∧ j ≤ (listV S sl 7).length ∧ cm = .int .i64 (comTo nn 0 ((listTo S 7).take j)) ∧ ix = .int .i64 j ∧ Below w5.heap.size w5 wr)
    case atStart => exact ⟨0, rfl, by omega, rfl, rfl, Below.refl _ _⟩
    case round =>
      obtain ⟨j, hq, hj, rfl, rfl, hwr⟩ := hrel
      have AA : Aside (gk = (listV S sl 7).length - j) := hq
      clear hq
      by_cases hlt : j < (listV S sl 7).length
      · have j0 : (0 : Int) ≤ (j : Int) := by omega
        have j1 : (j : Int) < ((listV S sl 7).length : Int) := by omega
        obtain ⟨rj, hrj⟩ : ∃ r, (listTo S 7)[j]? = some r := ⟨_, List.getElem?_eq_getElem (by have := HL.out.1; omega)⟩
        obtain ⟨ij, hij, hSj, hLj⟩ := listV_at (sl := sl) 7 _ _ hrj
        have HRJ := Lib.hid (And.intro hrj hSj)
        obtain ⟨bB, oB, eB, hAB, hBt, hbB, FB⟩ := Gr.Sl.at_ HSl.out hlt
        cases hAB
        have he : eB = vOf rj (sl ij) := by
          have := hBt.out
          rw [hLj] at this
          exact (Option.some.inj this).symm
        subst he
        have hbw := below_trans hb45 hwr hb45.size
        have p0 : wr.cell? ⟨bA, oA + j * 4, none⟩ = some (.int .i64 rj.prom) := FB wr hbw 0 (by show 0 < 4; omega)
        have p1 : wr.cell? ⟨bA, oA + j * 4 + 1, none⟩ = some (.int .i64 rj.view) := FB wr hbw 1 (by show 1 < 4; omega)
        have p2 : wr.cell? ⟨bA, oA + j * 4 + 2, none⟩ = some (.slice (sl ij).1 (sl ij).2.1 (sl ij).2.2) := FB wr hbw 2 (by show 2 < 4; omega)
        have p3 : wr.cell? ⟨bA, oA + j * 4 + 3, none⟩ = some (.int .i64 rj.com) := FB wr hbw 3 (by show 3 < 4; omega)
        have hsn := comTo_snoc nn 0 ((listTo S 7).take j) rj
        have htk : (listTo S 7).take (j + 1) = (listTo S 7).take j ++ [rj] := by
          rw [List.take_add_one, hrj]
          rfl
        rw [← htk] at hsn
        have HSN := Lib.hid hsn
        clear hsn htk hrj hSj hLj hBt FB
        generalize comTo nn 0 ((listTo S 7).take j) = cj at HSN ⊢
        generalize hrc : rj.com = rc at p3 HSN ⊢
        clear hrc
        have hsz := hwr.size
        have hcases : (rc ≤ (nn : Int) ∧ cj < rc) ∨ (rc ≤ (nn : Int) ∧ ¬ cj < rc) ∨ ¬ rc ≤ (nn : Int) := by omega
        rcases hcases with ⟨hcm, hmx⟩ | ⟨hcm, hmx⟩ | hcm
        · have HE := Lib.hid (HSN.out.trans ((if_pos hcm).trans (show max cj rc = rc by omega)))
          clear HSN
          go_wp2_with fail
          go_roundg ((listV S sl 7).length - (j + 1))
          case measure => have hkk := AA.out; omega
          case rel => exact ⟨j + 1, rfl, by omega, by rw [HE.out], by go_num, by (repeat (first | with_reducible apply Below.drew | with_reducible refine Below.setCell ?_ (by first | exact Nat.le_refl _ | (simp; done) | (simp; omega) | omega) _ | with_reducible refine Below.alloc ?_ (by first | exact Nat.le_refl _ | (simp; done) | (simp; omega) | omega) _ | with_reducible exact Below.refl _ _ | with_reducible assumption))⟩
        · have HE := Lib.hid (HSN.out.trans ((if_pos hcm).trans (show max cj rc = cj by omega)))
          clear HSN
          go_wp2_with fail
          go_roundg ((listV S sl 7).length - (j + 1))
          case measure => have hkk := AA.out; omega
          case rel => exact ⟨j + 1, rfl, by omega, by rw [HE.out], by go_num, by (repeat (first | with_reducible apply Below.drew | with_reducible refine Below.setCell ?_ (by first | exact Nat.le_refl _ | (simp; done) | (simp; omega) | omega) _ | with_reducible refine Below.alloc ?_ (by first | exact Nat.le_refl _ | (simp; done) | (simp; omega) | omega) _ | with_reducible exact Below.refl _ _ | with_reducible assumption))⟩
        · have HE := Lib.hid (HSN.out.trans (if_neg hcm))
          clear HSN
          go_wp2_with fail
          go_roundg ((listV S sl 7).length - (j + 1))
          case measure => have hkk := AA.out; omega
          case rel => exact ⟨j + 1, rfl, by omega, by rw [HE.out], by go_num, by (repeat (first | with_reducible apply Below.drew | with_reducible refine Below.setCell ?_ (by first | exact Nat.le_refl _ | (simp; done) | (simp; omega) | omega) _ | with_reducible refine Below.alloc ?_ (by first | exact Nat.le_refl _ | (simp; done) | (simp; omega) | omega) _ | with_reducible exact Below.refl _ _ | with_reducible assumption))⟩
      · have hje : j = (listTo S 7).length := by have := HL.out.1; omega
        have hj' : ¬ (j : Int) < ((listV S sl 7).length : Int) := by omega
        have hcc : chosenS b S = (p.2.log, comTo nn 0 ((listTo S 7).take j), 0) := by
          unfold chosenS
          rw [if_pos HW.out, HL.out.2.2.2.2, HNN.out, hje, List.take_length]
        have HC := Lib.hid hcc
        clear hcc hje
        generalize comTo nn 0 ((listTo S 7).take j) = cj at HC ⊢
        go_wp2_with fail
        apply ret_of
        · simp only [results, Try.results32]
          go_simp
          with_reducible rfl
        refine ⟨rfl, ?_⟩
        rw [HC.out]
        have hfin := below_trans hw5 hwr hw5.size
        have hrow := HR5.out.keep hwr
        exact ⟨_, rfl, hrow, hfin⟩
end Go.Proofs.Ytbicefilfhcgoaa

set_option linter.unusedSimpArgs false
set_option linter.unusedVariables false
set_option maxRecDepth 100000
namespace Go.Proofs.Ytbicefilfhcgoaa
open Go Go.RowKit Go.Sq Go.Wd Go.Arch

theorem bal_fresh (b : BegS) : balv b no7 (fun _ => no0) = [.int .i64 b.stream, .int .i64 b.epoch, .int .i64 b.site, .int .i64 b.n, .int .i64 b.stamp, .bool false, .bool false, .bool false, .bool false, .bool false, .bool false, .bool false,
    .int .i64 0, .int .i64 0, .slice none 0 0, .int .i64 0, .int .i64 0, .int .i64 0, .slice none 0 0, .int .i64 0, .int .i64 0, .int .i64 0, .slice none 0 0, .int .i64 0, .int .i64 0, .int .i64 0, .slice none 0 0, .int .i64 0,
    .int .i64 0, .int .i64 0, .slice none 0 0, .int .i64 0, .int .i64 0, .int .i64 0, .slice none 0 0, .int .i64 0, .int .i64 0, .int .i64 0, .slice none 0 0, .int .i64 0] := rfl
theorem of_in {e n s : Int} (hn : sitesE n = true) (h0 : 0 ≤ s) (h : ofE e n = s) : s < n := by
  unfold ofE at h
  split at h
  · rcases sites_cases hn with rfl | rfl | rfl | rfl | rfl | rfl <;> omega
  · omega
def NewPost (b : BegS) (own : RegS) (w : World) (e : Ending) (w' : World) : Prop :=
  (newOk b own ∧ ∃ g, e = .returned (.tuple #[.pointer (some ⟨g, 0, none⟩), .int .i64 0]) ∧ w.heap.size ≤ g ∧ BalAt w' w.heap.size g b (put7 no7 b.site.toNat own) ∧ Below w.heap.size w w') ∨
  (¬ newOk b own ∧ e = .returned (.tuple #[.pointer none, .int .i64 2]) ∧ Below w.heap.size w w')

set_option maxHeartbeats 4000000 in
theorem new_any (b : BegS) (own : RegS) (s : SlcE) (w : World) (hl : LogAt w w.heap.size s own.log) (h2 : own.log.length ≤ 2000) :
    Calls Try.prog 30 #[.int .i64 b.stream, .int .i64 b.epoch, .int .i64 b.site, .int .i64 b.n, .int .i64 b.stamp, .agg (rgv own s).toArray] w fun e w' => NewPost b own w e w' := by
  have hz : Below w.heap.size w (w.alloc (.cells (rgv own s).toArray 24)) := (Below.refl _ _).alloc (Nat.le_refl _) _
  have BR := Blk.new w 24 (rgv own s)
  have HL := Lib.hid (And.intro (hl.keep hz) hz)
  have FC : ∀ w', Below w.heap.size w w' ∧ Blk w' w.heap.size 24 (rgv own s) → w'.cell? ⟨w.heap.size, 0, none⟩ = some (.int .i64 own.prom) ∧ w'.cell? ⟨w.heap.size, 1, none⟩ = some (.int .i64 own.view) := fun w' h => ⟨h.2.cell 0, h.2.cell 1⟩
  clear hl
  by_cases hok : newOk b own
  case pos =>
    have HO := Lib.hid hok
    obtain ⟨g1, g2, g3, g4, g5, g6, g7, g8, g9⟩ := hok
    have hs7 := of_in g3 g4 g5
    unfold sitesE at g3
    simp only [decide_eq_true_eq] at g3
    have f1 : ¬ b.stream < 0 := by omega
    have f2 : ¬ (4 : Int) ≤ b.stream := by omega
    have f3 : ¬ b.n < 2 := by omega
    have f4 : ¬ (7 : Int) < b.n := by omega
    have f5 : ¬ b.site < 0 := by omega
    have f6 : (ofE b.epoch b.n != b.site) = false := by simpa using g5
    have f7 : ¬ (1048576 : Int) < b.epoch := by omega
    have f7' : decide ((1048576 : Int) < b.epoch) = false := by simpa using f7
    have f8 : (own.prom != b.epoch) = false := by simpa using g8
    have f9 : ¬ b.epoch ≤ own.view := by omega
    have HG := Lib.hid (And.intro g5 (And.intro g8 g7))
    clear g5 g8 g7
    go_enter Try.func30, Try.ntmps30
    go_wp2_with fail
    refine (of_any _ _ _).mono ?_
    rintro e w1 ⟨rfl, rfl⟩
    go_wp2_with ((with_reducible refine at_list ?_); first | refine wpList_load_blk_g 24 _ rfl rfl _ rfl _ _ _ (BR) Try.underlying24 rfl rg_info ?_)
    refine (check15_any own s _ HL.out.1).mono ?_
    rintro e w2 ⟨rfl, hb⟩
    rw [HG.out.2.2]
    have hw2 := below_trans HL.out.2 hb HL.out.2.size
    have R2 := BR.keep hb
    have L2 := HL.out.1.keep hb
    obtain ⟨q0, q1⟩ := FC w2 ⟨hw2, R2⟩
    have hsz := hw2.size
    have HX := Lib.hid (And.intro hw2 (And.intro R2 L2))
    have hlt := R2.lt
    clear hb FC HL BR hw2 L2
    have R3 := R2.alloc (.cells (balv b no7 (fun _ => no0)).toArray 85)
    rw [bal_fresh] at R3
    clear R2
    go_wp2_with ((with_reducible refine at_list ?_); first | refine wpList_load_blk rfl 24 _ rfl _ rfl _ _ _ (R3) Try.underlying24 rfl rg_info ?_)
    have hwA := HX.out.1.alloc hsz (.cells (balv b no7 (fun _ => no0)).toArray 85)
    have hp := put_any w2.heap.size b.site.toNat b no7 (fun _ => no0) own s (w2.alloc (.cells (balv b no7 (fun _ => no0)).toArray 85)) (Blk.new w2 _ _) (by omega)
      (HX.out.2.2.keep ((Below.refl _ _).alloc (Nat.le_refl _) _)) h2
    rw [show ((b.site.toNat : Nat) : Int) = b.site by omega] at hp
    rw [bal_fresh] at hp hwA
    refine hp.mono ?_
    clear hp
    rintro e w3 ⟨rfl, s', hB3, hR3, hK3⟩
    have hw3 := hwA.trans (hK3.below (B := w.heap.size) (fun k e => by cases e; omega) (fun k e => by cases e) (by simp; omega))
    have HF := Lib.hid (And.intro hB3 (And.intro hR3 hw3))
    clear hB3 hR3 hw3 hwA hK3 R3
    go_wp2_with fail
    go_ret2
    refine .inl ⟨HO.out, _, rfl, hsz, ⟨_, HF.out.1, fun i hi => ?_⟩, HF.out.2.2⟩
    by_cases hik : i = b.site.toNat
    · subst hik
      rw [upS_at, regOf_at]
      exact HF.out.2.1.base (by simp; omega)
    · rw [upS_far _ _ hik, regOf_far _ _ hik]
      exact Row.nil _ _
  case neg =>
    have HO := Lib.hid hok
    clear hok
    by_cases c1 : b.stream < 0
    · go_enter Try.func30, Try.ntmps30
      go_wp2_with fail
      go_ret2
      exact .inr ⟨HO.out, rfl, hz⟩
    by_cases c2 : (4 : Int) ≤ b.stream
    · go_enter Try.func30, Try.ntmps30
      go_wp2_with fail
      go_ret2
      exact .inr ⟨HO.out, rfl, hz⟩
    by_cases c3 : b.n < 2
    · go_enter Try.func30, Try.ntmps30
      go_wp2_with fail
      go_ret2
      exact .inr ⟨HO.out, rfl, hz⟩
    by_cases c4 : (7 : Int) < b.n
    · go_enter Try.func30, Try.ntmps30
      go_wp2_with fail
      go_ret2
      exact .inr ⟨HO.out, rfl, hz⟩
    by_cases c5 : b.site < 0
    · go_enter Try.func30, Try.ntmps30
      go_wp2_with fail
      go_ret2
      exact .inr ⟨HO.out, rfl, hz⟩
    have hs : sitesE b.n = true := by
      unfold sitesE
      simp only [decide_eq_true_eq]
      omega
    by_cases c6 : ofE b.epoch b.n = b.site
    case neg =>
      have f6 : (ofE b.epoch b.n != b.site) = true := by simpa using c6
      clear c6
      go_enter Try.func30, Try.ntmps30
      go_wp2_with fail
      refine (of_any _ _ _).mono ?_
      rintro e w1 ⟨rfl, rfl⟩
      go_wp2_with fail
      go_ret2
      exact .inr ⟨HO.out, rfl, hz⟩
    have c7 : ¬ (1048576 : Int) < b.epoch := by
      intro h
      unfold ofE at c6
      rw [if_neg (by omega)] at c6
      omega
    have f7' : decide ((1048576 : Int) < b.epoch) = false := by simpa using c7
    have f6 : (ofE b.epoch b.n != b.site) = false := by simpa using c6
    cases hm : mayR own with
    | false =>
      have HM := Lib.hid hm
      clear hm c6 hs
      go_enter Try.func30, Try.ntmps30
      go_wp2_with fail
      refine (of_any _ _ _).mono ?_
      rintro e w1 ⟨rfl, rfl⟩
      go_wp2_with ((with_reducible refine at_list ?_); first | refine wpList_load_blk_g 24 _ rfl rfl _ rfl _ _ _ (BR) Try.underlying24 rfl rg_info ?_)
      refine (check15_any own s _ HL.out.1).mono ?_
      rintro e w2 ⟨rfl, hb⟩
      rw [HM.out]
      have hw2 := below_trans HL.out.2 hb HL.out.2.size
      have R2 := BR.keep hb
      obtain ⟨q0, q1⟩ := FC w2 ⟨hw2, R2⟩
      clear hb FC HL BR
      go_wp2_with fail
      go_ret2
      exact .inr ⟨HO.out, rfl, hw2⟩
    | true =>
      have HM := Lib.hid hm
      by_cases c8 : own.prom = b.epoch
      case neg =>
        have f8 : (own.prom != b.epoch) = true := by simpa using c8
        clear hm c6 hs c8
        go_enter Try.func30, Try.ntmps30
        go_wp2_with fail
        refine (of_any _ _ _).mono ?_
        rintro e w1 ⟨rfl, rfl⟩
        go_wp2_with ((with_reducible refine at_list ?_); first | refine wpList_load_blk_g 24 _ rfl rfl _ rfl _ _ _ (BR) Try.underlying24 rfl rg_info ?_)
        refine (check15_any own s _ HL.out.1).mono ?_
        rintro e w2 ⟨rfl, hb⟩
        rw [HM.out]
        have hw2 := below_trans HL.out.2 hb HL.out.2.size
        have R2 := BR.keep hb
        obtain ⟨q0, q1⟩ := FC w2 ⟨hw2, R2⟩
        clear hb FC HL BR
        go_wp2_with fail
        go_ret2
        exact .inr ⟨HO.out, rfl, hw2⟩
      have c9 : b.epoch ≤ own.view := by
        by_cases h : b.epoch ≤ own.view
        · exact h
        · exact absurd ⟨by omega, by omega, hs, by omega, c6, by omega, hm, c8, by omega⟩ HO.out
      have f8 : (own.prom != b.epoch) = false := by simpa using c8
      clear hm c6 hs c8
      go_enter Try.func30, Try.ntmps30
      go_wp2_with fail
      refine (of_any _ _ _).mono ?_
      rintro e w1 ⟨rfl, rfl⟩
      go_wp2_with ((with_reducible refine at_list ?_); first | refine wpList_load_blk_g 24 _ rfl rfl _ rfl _ _ _ (BR) Try.underlying24 rfl rg_info ?_)
      refine (check15_any own s _ HL.out.1).mono ?_
      rintro e w2 ⟨rfl, hb⟩
      rw [HM.out]
      have hw2 := below_trans HL.out.2 hb HL.out.2.size
      have R2 := BR.keep hb
      obtain ⟨q0, q1⟩ := FC w2 ⟨hw2, R2⟩
      clear hb FC HL BR
      go_wp2_with fail
      go_ret2
      exact .inr ⟨HO.out, rfl, hw2⟩
end Go.Proofs.Ytbicefilfhcgoaa
