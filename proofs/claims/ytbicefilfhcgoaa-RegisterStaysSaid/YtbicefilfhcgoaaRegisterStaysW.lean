/-
  The walk over the statement RegisterStays.
-/
import Derived.Test.YtbicefilfhcgoaaRegLives
import Derived.Test.YtbicefilfhcgoaaRegBehind
set_option linter.unusedSimpArgs false
set_option linter.unusedVariables false
set_option maxRecDepth 100000
namespace Go.Proofs.Ytbicefilfhcgoaa
open Go Go.RowKit Go.Sq Go.Wd Go.Arch

set_option maxHeartbeats 8000000 in
theorem registerStays_walk (l : List RecV) (A : Option Addr) (c : Nat) (w : World) (hl : Recs w w.heap.size A l) (hn : l.length ≤ 9223372036854775807) :
    Calls Try.prog 5 #[.slice A l.length c] w fun e w' => e = .returned (.bool true) ∧ Below w.heap.size w w' := by
  have HE := Lib.hid hl
  clear hl
  go_enter Try.func5, Try.ntmps5
  go_wp2_with fail
  refine (beyond15_any l A c w HE.out hn).mono ?_
  rintro e w1 ⟨rfl, rfl⟩
  cases hbe : beyondR l with
  | true =>
    clear hbe
    go_wp2_with fail
    refine (lives15_any _).mono ?_
    rintro e w2 ⟨rfl, hb⟩
    go_wp2_with fail
    go_ret
    exact ⟨rfl, hb⟩
  | false =>
    have HN2 := Lib.hid (beyondR_no hbe).2
    clear hbe
    have hw0 : Below w1.heap.size w1 (w1.alloc (.cells (rgv reg0 (none, 0, 0)).toArray 24)) := (Below.refl _ _).alloc (Nat.le_refl _) _
    have HH := Lib.hid (And.intro hw0 (Blk.new w1 24 (rgv reg0 (none, 0, 0))))
    clear hw0
    go_wp2_with fail
    go_loopg [4] l.length (fun q i wr => ∃ (j : Nat) (r : RegS) (s : SlcE), q = l.length - j ∧ j ≤ l.length ∧ i = .int .i64 j ∧ Below w1.heap.size w1 wr ∧ Blk wr w1.heap.size 24 (rgv r s) ∧ LogAt wr wr.heap.size s r.log)
    case atStart => exact ⟨0, reg0, (none, 0, 0), rfl, by omega, rfl, HH.out.1, HH.out.2, LogAt.nil⟩
    case round =>
      clear HH
      obtain ⟨j, r, s, hq, hj, rfl, hB, B1, hS⟩ := hrel
      have AA : Aside (gk = l.length - j) := hq
      clear hq
      obtain ⟨wq, rfl⟩ : ∃ z, z = wr := ⟨_, rfl⟩
      by_cases hlt : j < l.length
      · obtain ⟨b1, o1, x, rfl, hx, FA, HX⟩ := HE.out.at_ hlt
        have hx2 := HN2.out x (List.mem_of_getElem? hx.out)
        obtain ⟨⟨q, b⟩, hqb⟩ : ∃ z, regR (applyR r x.s) = z := ⟨_, rfl⟩
        have HQ := Lib.hid hqb
        clear hqb
        have HS := Lib.hid hS
        clear hS
        have hz := hB.size
        go_wp2_with fail
        refine wp_region_t (.quiet 0 (.quiet 1 (.quiet 2 (.quiet 3 (.quiet 4 (.two 5 9 (.quiet 6 (.quiet 7 (.quiet 8 (.one 9 (.one 10 (.quiet 11 .done)))))) (.one 5 (.quiet 6 (.quiet 7 (.quiet 8 (.one 10 (.quiet 11 .done)))))))))))) (fun w' => Below wq.heap.size wq w') (by kernel_rfl) (by kernel_rfl) (by kernel_rfl) (by kernel_rfl) ((Below.refl _ _).drew) rfl ?_
        intro KP RP TP hKP hTP hTP'
        simp only [Sch.fill, nth]
        apply merge2 (Inv := fun g s w' => Below wq.heap.size wq w' ∧ wq.heap.size ≤ g ∧ Blk w' g 24 (rgv q s) ∧ LogAt w' w'.heap.size s (q).log) (K := KP)
        · intro HK
          have hQ : Below wq.heap.size wq wq.drew := (Below.refl _ _).drew
          generalize wq.drew = wc at hQ ⊢
          go_wp2_with (first
            | (apply SeqT.skip; rfl; simp only [Act.put, List.setIfInBounds_toArray, List.set_cons_zero, List.set_cons_succ])
            | (apply SeqT.pure; rfl; (intro w9 hw9; have hw9 := hTP _ hw9; exact exec_load_blk 24 _ rfl _ rfl _ _ (B1.keep hw9) _ Try.underlying24 rfl rg_info); simp only [Act.put, List.setIfInBounds_toArray, List.set_cons_zero, List.set_cons_succ])
            | (apply SeqT.pure; rfl; (intro w9 hw9; have hw9 := hTP _ hw9; ((obtain ⟨q0, q1, q2, q3, q4, q5, q6, q7⟩ := FA _ (below_trans hB hw9 hz))); go_simp; with_reducible rfl); simp only [Act.put, List.setIfInBounds_toArray, List.set_cons_zero, List.set_cons_succ]))
          all_goals first | apply SeqT.two | apply SeqT.one
          all_goals first
            | (refine EffT.is (some 23) rfl ?_
               apply EffT.go
               · rfl
               intro KE hKE
               go_wp2_with fail
               refine (apply_get s x wc HQ.out (HS.out.keep hQ) (HX.out.keep (below_trans hB hQ hz)) (by omega)).mono ?_
               rintro e wd ⟨sr, rfl, hR0, hb⟩
               have hQ' := below_trans hQ hb hQ.size
               refine hKE _ _ (hTP' _ hQ') ?_
               clear hKE KE hQ
               try replace hZ := hZ.keep hb
               clear hb
               try clear wc
               obtain ⟨wc, rfl⟩ : ∃ z, z = wd := ⟨_, rfl⟩
               have hR := hR0
               clear hR0
               have hQ := hQ'
               clear hQ'
               go_wp2_with (first
                 | (apply SeqT.skip; rfl; simp only [Act.put, List.setIfInBounds_toArray, List.set_cons_zero, List.set_cons_succ])
                 | (apply SeqT.pure; rfl; (intro w9 hw9; have hw9 := hTP _ hw9; exact exec_load_blk 24 _ rfl _ rfl _ _ (B1.keep hw9) _ Try.underlying24 rfl rg_info); simp only [Act.put, List.setIfInBounds_toArray, List.set_cons_zero, List.set_cons_succ])
                 | (apply SeqT.pure; rfl; (intro w9 hw9; have hw9 := hTP _ hw9; ((obtain ⟨q0, q1, q2, q3, q4, q5, q6, q7⟩ := FA _ (below_trans hB hw9 hz))); go_simp; with_reducible rfl); simp only [Act.put, List.setIfInBounds_toArray, List.set_cons_zero, List.set_cons_succ])))
            | (refine EffT.is (some 5) rfl ?_
               apply EffT.go
               · rfl
               intro KE hKE
               go_wp2_with fail
               refine eff_abs hKE (fun W' => Below wc.heap.size wc W' ∧ Blk W' wc.heap.size 24 (rgv reg0 (none, 0, 0))) ⟨(Below.refl _ _).alloc (Nat.le_refl _) _, Blk.new wc 24 (rgv reg0 (none, 0, 0))⟩ (fun W' h => hTP' _ (below_trans hQ h.1 hQ.size)) ?_
               rintro wd ⟨hb, hZ0⟩
               have hQ' := below_trans hQ hb hQ.size
               have hgz := hQ.size
               generalize wc.heap.size = gz at hZ0 hgz ⊢
               clear hKE KE hQ
               try replace hR := hR.keep hb
               clear hb
               try clear wc
               obtain ⟨wc, rfl⟩ : ∃ z, z = wd := ⟨_, rfl⟩
               have hZ := hZ0
               clear hZ0
               have hQ := hQ'
               clear hQ'
               go_wp2_with (first
                 | (apply SeqT.skip; rfl; simp only [Act.put, List.setIfInBounds_toArray, List.set_cons_zero, List.set_cons_succ])
                 | (apply SeqT.pure; rfl; (intro w9 hw9; have hw9 := hTP _ hw9; exact exec_load_blk 24 _ rfl _ rfl _ _ (B1.keep hw9) _ Try.underlying24 rfl rg_info); simp only [Act.put, List.setIfInBounds_toArray, List.set_cons_zero, List.set_cons_succ])
                 | (apply SeqT.pure; rfl; (intro w9 hw9; have hw9 := hTP _ hw9; ((obtain ⟨q0, q1, q2, q3, q4, q5, q6, q7⟩ := FA _ (below_trans hB hw9 hz))); go_simp; with_reducible rfl); simp only [Act.put, List.setIfInBounds_toArray, List.set_cons_zero, List.set_cons_succ])))
          all_goals first | apply SeqT.two | apply SeqT.one
          all_goals first
            | (refine EffT.is (some 23) rfl ?_
               apply EffT.go
               · rfl
               intro KE hKE
               go_wp2_with fail
               refine (apply_get s x wc HQ.out (HS.out.keep hQ) (HX.out.keep (below_trans hB hQ hz)) (by omega)).mono ?_
               rintro e wd ⟨sr, rfl, hR0, hb⟩
               have hQ' := below_trans hQ hb hQ.size
               refine hKE _ _ (hTP' _ hQ') ?_
               clear hKE KE hQ
               try replace hZ := hZ.keep hb
               clear hb
               try clear wc
               obtain ⟨wc, rfl⟩ : ∃ z, z = wd := ⟨_, rfl⟩
               have hR := hR0
               clear hR0
               have hQ := hQ'
               clear hQ'
               go_wp2_with (first
                 | (apply SeqT.skip; rfl; simp only [Act.put, List.setIfInBounds_toArray, List.set_cons_zero, List.set_cons_succ])
                 | (apply SeqT.pure; rfl; (intro w9 hw9; have hw9 := hTP _ hw9; exact exec_load_blk 24 _ rfl _ rfl _ _ (B1.keep hw9) _ Try.underlying24 rfl rg_info); simp only [Act.put, List.setIfInBounds_toArray, List.set_cons_zero, List.set_cons_succ])
                 | (apply SeqT.pure; rfl; (intro w9 hw9; have hw9 := hTP _ hw9; ((obtain ⟨q0, q1, q2, q3, q4, q5, q6, q7⟩ := FA _ (below_trans hB hw9 hz))); go_simp; with_reducible rfl); simp only [Act.put, List.setIfInBounds_toArray, List.set_cons_zero, List.set_cons_succ])))
            | (refine EffT.is (some 5) rfl ?_
               apply EffT.go
               · rfl
               intro KE hKE
               go_wp2_with fail
               refine eff_abs hKE (fun W' => Below wc.heap.size wc W' ∧ Blk W' wc.heap.size 24 (rgv reg0 (none, 0, 0))) ⟨(Below.refl _ _).alloc (Nat.le_refl _) _, Blk.new wc 24 (rgv reg0 (none, 0, 0))⟩ (fun W' h => hTP' _ (below_trans hQ h.1 hQ.size)) ?_
               rintro wd ⟨hb, hZ0⟩
               have hQ' := below_trans hQ hb hQ.size
               have hgz := hQ.size
               generalize wc.heap.size = gz at hZ0 hgz ⊢
               clear hKE KE hQ
               try replace hR := hR.keep hb
               clear hb
               try clear wc
               obtain ⟨wc, rfl⟩ : ∃ z, z = wd := ⟨_, rfl⟩
               have hZ := hZ0
               clear hZ0
               have hQ := hQ'
               clear hQ'
               go_wp2_with (first
                 | (apply SeqT.skip; rfl; simp only [Act.put, List.setIfInBounds_toArray, List.set_cons_zero, List.set_cons_succ])
                 | (apply SeqT.pure; rfl; (intro w9 hw9; have hw9 := hTP _ hw9; exact exec_load_blk 24 _ rfl _ rfl _ _ (B1.keep hw9) _ Try.underlying24 rfl rg_info); simp only [Act.put, List.setIfInBounds_toArray, List.set_cons_zero, List.set_cons_succ])
                 | (apply SeqT.pure; rfl; (intro w9 hw9; have hw9 := hTP _ hw9; ((obtain ⟨q0, q1, q2, q3, q4, q5, q6, q7⟩ := FA _ (below_trans hB hw9 hz))); go_simp; with_reducible rfl); simp only [Act.put, List.setIfInBounds_toArray, List.set_cons_zero, List.set_cons_succ])))
          all_goals first | apply SeqT.two | apply SeqT.one
          all_goals
            refine EffT.is none rfl ?_
            apply EffT.go
            · rfl
            intro KE hKE
            refine wp_store_own 24 _ _ rfl _ (rgv q sr) rfl rfl _ _ hZ rg_info rfl (rgv_one _ _) ?_
            intro wd B5 g5
            have hQ' := hQ.trans (below_grown g5 hgz hQ.size)
            have hR5 := hR.stored hZ (by simp [rgv]) g5
            refine hKE _ _ (hTP' _ hQ') ?_
            clear hKE KE
            go_wp2_with (first
              | (apply SeqT.skip; rfl; simp only [Act.put, List.setIfInBounds_toArray, List.set_cons_zero, List.set_cons_succ])
              | (apply SeqT.pure; rfl; (intro w9 hw9; have hw9 := hTP _ hw9; exact exec_load_blk 24 _ rfl _ rfl _ _ (B1.keep hw9) _ Try.underlying24 rfl rg_info); simp only [Act.put, List.setIfInBounds_toArray, List.set_cons_zero, List.set_cons_succ])
              | (apply SeqT.pure; rfl; (intro w9 hw9; have hw9 := hTP _ hw9; ((obtain ⟨q0, q1, q2, q3, q4, q5, q6, q7⟩ := FA _ (below_trans hB hw9 hz))); go_simp; with_reducible rfl); simp only [Act.put, List.setIfInBounds_toArray, List.set_cons_zero, List.set_cons_succ]))
            apply SeqT.done
            exact HK gz sr wd ⟨hQ', hgz, B5, hR5⟩
        intro g s2 w3 ⟨hb3, hge, B3, R3⟩
        refine hKP _ _ (hTP' _ hb3) ?_
        clear hKP hTP hTP'
        have hB3 := below_trans hB hb3 hz
        have C1 := B1.keep hb3
        have HS3 := Lib.hid (HS.out.keep hb3)
        have R3' := Lib.hid R3
        have l1 := C1.lt
        have hz3 := hB3.size
        clear R3 B1 HS hB hb3
        try clear wq
        cases b with
        | false =>
          go_wp2_with fail
          go_roundg (l.length - (j + 1))
          case measure => have hkk := AA.out; omega
          case rel => exact ⟨j + 1, r, s, rfl, by omega, by go_num, hB3, C1, HS3.out⟩
        | true =>
          obtain ⟨t1, t2, t3, t4, t5, t6⟩ := apply_stays (regR_some HQ.out)
          obtain ⟨⟨m1, m2, m3⟩, m4, m5, m6⟩ := (mayR_iff q).1 t1
          obtain ⟨⟨v1, v2, v3⟩, v4, v5, v6⟩ := (mayR_iff r).1 (apply_may (regR_some HQ.out))
          have q64 := ((okLog_iff _ _).1 m4).1
          have r64 := ((okLog_iff _ _).1 v4).1
          have hc := check15_any q s2 w3 R3'.out
          rw [t1] at hc
          have HC := Lib.hid hc
          obtain ⟨p, v, lg, k⟩ := r
          dsimp only at *
          obtain ⟨n, rfl⟩ := Int.eq_ofNat_of_zero_le v5
          obtain ⟨AR, nR, cR⟩ := s
          obtain rfl : nR = lg.length := HS3.out.1
          obtain ⟨AQ, nQ, cQ⟩ := s2
          obtain rfl : nQ = q.log.length := R3'.out.1
          have kR := HS3.out.2.1
          have kR2 := HS3.out.2.2.1
          have kQ := R3'.out.2.1
          have kQ2 := R3'.out.2.2.1
          dsimp only at kR kR2 kQ kQ2
          have HT := Lib.hid (And.intro t5 t6)
          have n1 : ¬ q.prom < p := by omega
          have n2 : ¬ q.view < v := by omega
          have n3 : ¬ q.com < (n : Int) := by omega
          have hnl : n ≤ lg.length := by omega
          clear hc t1 t2 t3 t4 t5 t6 m1 m2 m3 m4 m5 m6 v1 v2 v3 v4 v5 v6
          go_wp2_with ((with_reducible refine at_list ?_); first | refine wpList_load_blk rfl 24 _ rfl _ rfl _ _ _ (B3) Try.underlying24 rfl rg_info ?_)
          refine HC.out.mono ?_
          rintro e w4 ⟨rfl, hb4⟩
          have hB4 := below_trans hB3 hb4 hz3
          have D1 := C1.keep hb4
          have D3 := B3.keep hb4
          have S4 := Lib.hid (And.intro (HS3.out.keep hb4) (R3'.out.keep hb4))
          have hz4 := hB4.size
          clear hb4 hB3 HC B3 C1 HS3 R3'
          have x0 := D1.cell 0
          have x1 := D1.cell 1
          have x2 := D1.cell 2
          have x3 := D1.cell 3
          have y0 := D3.cell 0
          have y1 := D3.cell 1
          have y2 := D3.cell 2
          have y3 := D3.cell 3
          simp [rgv] at x0 x1 x2 x3 y0 y1 y2 y3
          obtain ⟨wq, rfl⟩ : ∃ z, z = w4 := ⟨_, rfl⟩
          by_cases hv : q.view = v
          · have hvb : (q.view == v) = true := by rw [beq_iff_eq]; exact hv
            have hT : lg.length ≤ q.log.length ∧ q.log.take lg.length = lg.take lg.length := by
              have := HT.out
              unfold keepsR at this
              rw [if_pos hv] at this
              exact this
            have HT2 := Lib.hid hT.2
            obtain ⟨t1, _⟩ := hT
            clear hv HT
            go_wp2_with fail
            have hnn : lg.length ≤ lg.length := Nat.le_refl _
            have hd : Below wq.heap.size wq wq.drew := (Below.refl _ _).drew
            have hs := same_yes (n1 := lg.length) (n2 := lg.length) (q.log.take lg.length) (lg.take lg.length) (by rw [List.length_take]; omega) (by rw [List.length_take]; omega) HT2.out AQ AR cQ cR wq.drew ((S4.out.2.keep hd).2.2.2.take lg.length) ((S4.out.1.keep hd).2.2.2.take lg.length) (by rw [List.length_take]; omega) (by rw [List.length_take]; omega)
            have HSY := Lib.hid hs
            clear hs hd
            have cq1 : lg.length ≤ cQ := by omega
            have cr1 : lg.length ≤ cR := by omega
            have cq2 : ((lg.length : Nat) : Int) ≤ (cQ : Int) := by omega
            have cr2 : ((lg.length : Nat) : Int) ≤ (cR : Int) := by omega
            have dn : decide (q.log.length < lg.length) = false := decide_eq_false (by omega)
            have di : decide ((q.log.length : Int) < ((lg.length : Nat) : Int)) = false := decide_eq_false (by omega)
            refine wp_region_p ([(0, true), (1, true), (2, true), (3, true), (4, true), (5, true), (6, true), (7, true), (8, true), (9, true), (10, true), (11, true), (12, true), (13, true), (14, false), (15, true), (16, true)]) (fun w' => Below wq.heap.size wq w') (by kernel_rfl) rfl (by kernel_rfl) (by kernel_rfl) ((Below.refl _ _).drew) rfl ?_
            intro KP RP TP hKP hTP hTP'
            simp only [pick, nth]
            go_wp2_with (first
              | (apply SeqP.skip; rfl; simp only [Act.put, List.setIfInBounds_toArray, List.set_cons_zero, List.set_cons_succ])
              | (apply SeqP.call; rfl; rfl; (intro w2 hw; have hw := hTP _ hw; ((have a2 := (D1.keep hw).cell 2; have b2 := (D3.keep hw).cell 2; simp [rgv] at a2 b2)); go_simp; exact ⟨rfl, rfl⟩); (intro w2 hw; have hw := hTP _ hw; ((have a2 := (D1.keep hw).cell 2; have b2 := (D3.keep hw).cell 2; simp [rgv] at a2 b2)); (first | fail)); simp only [Act.put, List.setIfInBounds_toArray, List.set_cons_zero, List.set_cons_succ])
              | (apply SeqP.pure; rfl; (intro w2 hw; have hw := hTP _ hw; ((have a2 := (D1.keep hw).cell 2; have b2 := (D3.keep hw).cell 2; simp [rgv] at a2 b2)); go_simp; with_reducible rfl); simp only [Act.put, List.setIfInBounds_toArray, List.set_cons_zero, List.set_cons_succ])
              | (apply SeqP.split; rfl; rfl; all_goals (intro hc; simp only [hc]; try simp only [beq_iff_eq, decide_eq_true_eq, beq_eq_false_iff_ne, decide_eq_false_iff_not, bne_iff_ne, ne_eq, Bool.not_eq_true', Bool.not_eq_false', Int.not_le, Int.not_lt, bne_eq_false_iff_eq, Bool.or_eq_true, Bool.and_eq_true, Bool.or_eq_false_iff] at hc)))
            apply SeqP.eff
            · rfl
            intro KE hKE
            go_wp2_with fail
            refine HSY.out.mono ?_
            rintro e w5 ⟨rfl, hb5⟩
            have hQ5 := below_trans (Below.refl wq.heap.size wq).drew hb5 (Nat.le_refl _)
            refine hKE _ _ (hTP' _ hQ5) ?_
            clear hKE KE hb5 HSY
            go_wp2_with (first
              | (apply SeqP.skip; rfl; simp only [Act.put, List.setIfInBounds_toArray, List.set_cons_zero, List.set_cons_succ])
              | (apply SeqP.call; rfl; rfl; (intro w2 hw; have hw := hTP _ hw; (skip); go_simp; exact ⟨rfl, rfl⟩); (intro w2 hw; have hw := hTP _ hw; (skip); (first | fail)); simp only [Act.put, List.setIfInBounds_toArray, List.set_cons_zero, List.set_cons_succ])
              | (apply SeqP.pure; rfl; (intro w2 hw; have hw := hTP _ hw; (skip); go_simp; with_reducible rfl); simp only [Act.put, List.setIfInBounds_toArray, List.set_cons_zero, List.set_cons_succ])
              | (apply SeqP.split; rfl; rfl; all_goals (intro hc; simp only [hc]; try simp only [beq_iff_eq, decide_eq_true_eq, beq_eq_false_iff_ne, decide_eq_false_iff_not, bne_iff_ne, ne_eq, Bool.not_eq_true', Bool.not_eq_false', Int.not_le, Int.not_lt, bne_eq_false_iff_eq, Bool.or_eq_true, Bool.and_eq_true, Bool.or_eq_false_iff] at hc)))
            apply SeqP.nil
            refine hKP _ _ (hTP' _ (hQ5)) ?_
            clear hKP hTP hTP'
            have hB5 := below_trans hB4 hQ5 hz4
            have E1 := D1.keep hQ5
            have E3 := D3.keep hQ5
            have S5 := Lib.hid (S4.out.2.keep hQ5)
            have hz5 := hB5.size
            clear hB4 hQ5 D1 D3 S4 x0 x1 x2 x3 y0 y1 y2 y3
            go_wp2_with ((with_reducible refine at_list ?_); first | refine wpList_load_blk rfl 24 _ rfl _ rfl _ _ _ (E3) Try.underlying24 rfl rg_info ?_ | (refine wpList_store_own rfl 24 _ _ rfl _ (rgv q (AQ, q.log.length, cQ)) rfl rfl _ _ (E1) rg_info rfl (rgv_one _ _) ?_; intro w6 F1 g6))
            have hB6 := hB5.trans (below_grown g6 (Nat.le_refl _) hz5)
            go_roundg (l.length - (j + 1))
            case measure => have hkk := AA.out; omega
            case rel => exact ⟨j + 1, q, (AQ, q.log.length, cQ), rfl, by omega, by go_num, hB6, F1, S5.out.stored E1 (by simp [rgv]) g6⟩
          · have hvb : (q.view == v) = false := by rw [beq_eq_false_iff_ne]; exact hv
            have hT : n ≤ q.log.length ∧ q.log.take n = lg.take n := by
              have := HT.out
              unfold keepsR at this
              rw [if_neg hv] at this
              exact this
            have HT2 := Lib.hid hT.2
            obtain ⟨t1, _⟩ := hT
            clear hv HT
            go_wp2_with fail
            have hnn : n ≤ lg.length := hnl
            have hd : Below wq.heap.size wq wq.drew := (Below.refl _ _).drew
            have hs := same_yes (n1 := n) (n2 := n) (q.log.take n) (lg.take n) (by rw [List.length_take]; omega) (by rw [List.length_take]; omega) HT2.out AQ AR cQ cR wq.drew ((S4.out.2.keep hd).2.2.2.take n) ((S4.out.1.keep hd).2.2.2.take n) (by rw [List.length_take]; omega) (by rw [List.length_take]; omega)
            have HSY := Lib.hid hs
            clear hs hd
            have cq1 : n ≤ cQ := by omega
            have cr1 : n ≤ cR := by omega
            have cq2 : ((n : Nat) : Int) ≤ (cQ : Int) := by omega
            have cr2 : ((n : Nat) : Int) ≤ (cR : Int) := by omega
            have dn : decide (q.log.length < n) = false := decide_eq_false (by omega)
            have di : decide ((q.log.length : Int) < ((n : Nat) : Int)) = false := decide_eq_false (by omega)
            refine wp_region_p ([(0, true), (1, true), (2, true), (3, true), (4, true), (5, true), (6, true), (7, true), (8, true), (9, true), (10, true), (11, true), (12, true), (13, true), (14, false), (15, true), (16, true)]) (fun w' => Below wq.heap.size wq w') (by kernel_rfl) rfl (by kernel_rfl) (by kernel_rfl) ((Below.refl _ _).drew) rfl ?_
            intro KP RP TP hKP hTP hTP'
            simp only [pick, nth]
            go_wp2_with (first
              | (apply SeqP.skip; rfl; simp only [Act.put, List.setIfInBounds_toArray, List.set_cons_zero, List.set_cons_succ])
              | (apply SeqP.call; rfl; rfl; (intro w2 hw; have hw := hTP _ hw; ((have a2 := (D1.keep hw).cell 2; have b2 := (D3.keep hw).cell 2; simp [rgv] at a2 b2)); go_simp; exact ⟨rfl, rfl⟩); (intro w2 hw; have hw := hTP _ hw; ((have a2 := (D1.keep hw).cell 2; have b2 := (D3.keep hw).cell 2; simp [rgv] at a2 b2)); (first | fail)); simp only [Act.put, List.setIfInBounds_toArray, List.set_cons_zero, List.set_cons_succ])
              | (apply SeqP.pure; rfl; (intro w2 hw; have hw := hTP _ hw; ((have a2 := (D1.keep hw).cell 2; have b2 := (D3.keep hw).cell 2; simp [rgv] at a2 b2)); go_simp; with_reducible rfl); simp only [Act.put, List.setIfInBounds_toArray, List.set_cons_zero, List.set_cons_succ])
              | (apply SeqP.split; rfl; rfl; all_goals (intro hc; simp only [hc]; try simp only [beq_iff_eq, decide_eq_true_eq, beq_eq_false_iff_ne, decide_eq_false_iff_not, bne_iff_ne, ne_eq, Bool.not_eq_true', Bool.not_eq_false', Int.not_le, Int.not_lt, bne_eq_false_iff_eq, Bool.or_eq_true, Bool.and_eq_true, Bool.or_eq_false_iff] at hc)))
            apply SeqP.eff
            · rfl
            intro KE hKE
            go_wp2_with fail
            refine HSY.out.mono ?_
            rintro e w5 ⟨rfl, hb5⟩
            have hQ5 := below_trans (Below.refl wq.heap.size wq).drew hb5 (Nat.le_refl _)
            refine hKE _ _ (hTP' _ hQ5) ?_
            clear hKE KE hb5 HSY
            go_wp2_with (first
              | (apply SeqP.skip; rfl; simp only [Act.put, List.setIfInBounds_toArray, List.set_cons_zero, List.set_cons_succ])
              | (apply SeqP.call; rfl; rfl; (intro w2 hw; have hw := hTP _ hw; (skip); go_simp; exact ⟨rfl, rfl⟩); (intro w2 hw; have hw := hTP _ hw; (skip); (first | fail)); simp only [Act.put, List.setIfInBounds_toArray, List.set_cons_zero, List.set_cons_succ])
              | (apply SeqP.pure; rfl; (intro w2 hw; have hw := hTP _ hw; (skip); go_simp; with_reducible rfl); simp only [Act.put, List.setIfInBounds_toArray, List.set_cons_zero, List.set_cons_succ])
              | (apply SeqP.split; rfl; rfl; all_goals (intro hc; simp only [hc]; try simp only [beq_iff_eq, decide_eq_true_eq, beq_eq_false_iff_ne, decide_eq_false_iff_not, bne_iff_ne, ne_eq, Bool.not_eq_true', Bool.not_eq_false', Int.not_le, Int.not_lt, bne_eq_false_iff_eq, Bool.or_eq_true, Bool.and_eq_true, Bool.or_eq_false_iff] at hc)))
            apply SeqP.nil
            refine hKP _ _ (hTP' _ (hQ5)) ?_
            clear hKP hTP hTP'
            have hB5 := below_trans hB4 hQ5 hz4
            have E1 := D1.keep hQ5
            have E3 := D3.keep hQ5
            have S5 := Lib.hid (S4.out.2.keep hQ5)
            have hz5 := hB5.size
            clear hB4 hQ5 D1 D3 S4 x0 x1 x2 x3 y0 y1 y2 y3
            go_wp2_with ((with_reducible refine at_list ?_); first | refine wpList_load_blk rfl 24 _ rfl _ rfl _ _ _ (E3) Try.underlying24 rfl rg_info ?_ | (refine wpList_store_own rfl 24 _ _ rfl _ (rgv q (AQ, q.log.length, cQ)) rfl rfl _ _ (E1) rg_info rfl (rgv_one _ _) ?_; intro w6 F1 g6))
            have hB6 := hB5.trans (below_grown g6 (Nat.le_refl _) hz5)
            go_roundg (l.length - (j + 1))
            case measure => have hkk := AA.out; omega
            case rel => exact ⟨j + 1, q, (AQ, q.log.length, cQ), rfl, by omega, by go_num, hB6, F1, S5.out.stored E1 (by simp [rgv]) g6⟩
      · obtain rfl : j = l.length := by omega
        have hz := hB.size
        go_wp2_with fail
        refine (lives15_any _).mono ?_
        rintro e w2 ⟨rfl, hb⟩
        have hB2 := below_trans hB hb hz
        go_wp2_with fail
        go_ret
        exact ⟨rfl, hB2⟩
end Go.Proofs.Ytbicefilfhcgoaa
