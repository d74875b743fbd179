/-
  The walk over the statement RegisterTwice.
-/
import Derived.Test.YtbicefilfhcgoaaRegLives
import Derived.Test.YtbicefilfhcgoaaRegBehind
set_option linter.unusedSimpArgs false
set_option linter.unusedVariables false
set_option maxRecDepth 100000
namespace Go.Proofs.Ytbicefilfhcgoaa
open Go Go.RowKit Go.Sq Go.Wd Go.Arch

set_option maxHeartbeats 8000000 in
theorem registerTwice_walk (l : List RecV) (A : Option Addr) (c : Nat) (w : World) (hl : Recs w w.heap.size A l) (hn : l.length ≤ 9223372036854775807) :
    Calls Try.prog 6 #[.slice A l.length c] w fun e w' => e = .returned (.bool true) ∧ Below w.heap.size w w' := by
  have HE := Lib.hid hl
  clear hl
  go_enter Try.func6, Try.ntmps6
  go_wp2_with fail
  refine (beyond15_any l A c w HE.out hn).mono ?_
  rintro e w1 ⟨rfl, rfl⟩
  cases hbe : beyondR l with
  | true =>
    clear hbe
    go_wp2_with fail
    refine (lives15_any _).mono ?_
    rintro e w2 ⟨rfl, hb⟩
    go_wp2_with fail
    go_ret
    exact ⟨rfl, hb⟩
  | false =>
    have HN2 := Lib.hid (beyondR_no hbe).2
    clear hbe
    have hw0 : Below w1.heap.size w1 (w1.alloc (.cells (rgv reg0 (none, 0, 0)).toArray 24)) := (Below.refl _ _).alloc (Nat.le_refl _) _
    have HH := Lib.hid (And.intro hw0 (Blk.new w1 24 (rgv reg0 (none, 0, 0))))
    clear hw0
    go_wp2_with fail
    go_loopg [4] l.length (fun q i wr => ∃ (j : Nat) (r : RegS) (s : SlcE), q = l.length - j ∧ j ≤ l.length ∧ i = .int .i64 j ∧ Below w1.heap.size w1 wr ∧ Blk wr w1.heap.size 24 (rgv r s) ∧ LogAt wr wr.heap.size s r.log)
    case atStart => exact ⟨0, reg0, (none, 0, 0), rfl, by omega, rfl, HH.out.1, HH.out.2, LogAt.nil⟩
    case round =>
      clear HH
      obtain ⟨j, r, s, hq, hj, rfl, hB, B1, hS⟩ := hrel
      have AA : Aside (gk = l.length - j) := hq
      clear hq
      obtain ⟨wq, rfl⟩ : ∃ z, z = wr := ⟨_, rfl⟩
      by_cases hlt : j < l.length
      · obtain ⟨b1, o1, x, rfl, hx, FA, HX⟩ := HE.out.at_ hlt
        have hx2 := HN2.out x (List.mem_of_getElem? hx.out)
        obtain ⟨⟨q, b⟩, hqb⟩ : ∃ z, regR (applyR r x.s) = z := ⟨_, rfl⟩
        have HQ := Lib.hid hqb
        clear hqb
        have HS := Lib.hid hS
        clear hS
        have hz := hB.size
        go_wp2_with fail
        refine wp_region_t (.quiet 0 (.quiet 1 (.quiet 2 (.quiet 3 (.quiet 4 (.two 5 9 (.quiet 6 (.quiet 7 (.quiet 8 (.one 9 (.one 10 (.quiet 11 .done)))))) (.one 5 (.quiet 6 (.quiet 7 (.quiet 8 (.one 10 (.quiet 11 .done)))))))))))) (fun w' => Below wq.heap.size wq w') (by kernel_rfl) (by kernel_rfl) (by kernel_rfl) (by kernel_rfl) ((Below.refl _ _).drew) rfl ?_
        intro KP RP TP hKP hTP hTP'
        simp only [Sch.fill, nth]
        apply merge2 (Inv := fun g s w' => Below wq.heap.size wq w' ∧ wq.heap.size ≤ g ∧ Blk w' g 24 (rgv q s) ∧ LogAt w' w'.heap.size s (q).log) (K := KP)
        · intro HK
          have hQ : Below wq.heap.size wq wq.drew := (Below.refl _ _).drew
          generalize wq.drew = wc at hQ ⊢
          go_wp2_with (first
            | (apply SeqT.skip; rfl; simp only [Act.put, List.setIfInBounds_toArray, List.set_cons_zero, List.set_cons_succ])
            | (apply SeqT.pure; rfl; (intro w9 hw9; have hw9 := hTP _ hw9; exact exec_load_blk 24 _ rfl _ rfl _ _ (B1.keep hw9) _ Try.underlying24 rfl rg_info); simp only [Act.put, List.setIfInBounds_toArray, List.set_cons_zero, List.set_cons_succ])
            | (apply SeqT.pure; rfl; (intro w9 hw9; have hw9 := hTP _ hw9; ((obtain ⟨q0, q1, q2, q3, q4, q5, q6, q7⟩ := FA _ (below_trans hB hw9 hz))); go_simp; with_reducible rfl); simp only [Act.put, List.setIfInBounds_toArray, List.set_cons_zero, List.set_cons_succ]))
          all_goals first | apply SeqT.two | apply SeqT.one
          all_goals first
            | (refine EffT.is (some 24) rfl ?_
               apply EffT.go
               · rfl
               intro KE hKE
               go_wp2_with fail
               refine (apply_get s x wc HQ.out (HS.out.keep hQ) (HX.out.keep (below_trans hB hQ hz)) (by omega)).mono ?_
               rintro e wd ⟨sr, rfl, hR0, hb⟩
               have hQ' := below_trans hQ hb hQ.size
               refine hKE _ _ (hTP' _ hQ') ?_
               clear hKE KE hQ
               try replace hZ := hZ.keep hb
               clear hb
               try clear wc
               obtain ⟨wc, rfl⟩ : ∃ z, z = wd := ⟨_, rfl⟩
               have hR := hR0
               clear hR0
               have hQ := hQ'
               clear hQ'
               go_wp2_with (first
                 | (apply SeqT.skip; rfl; simp only [Act.put, List.setIfInBounds_toArray, List.set_cons_zero, List.set_cons_succ])
                 | (apply SeqT.pure; rfl; (intro w9 hw9; have hw9 := hTP _ hw9; exact exec_load_blk 24 _ rfl _ rfl _ _ (B1.keep hw9) _ Try.underlying24 rfl rg_info); simp only [Act.put, List.setIfInBounds_toArray, List.set_cons_zero, List.set_cons_succ])
                 | (apply SeqT.pure; rfl; (intro w9 hw9; have hw9 := hTP _ hw9; ((obtain ⟨q0, q1, q2, q3, q4, q5, q6, q7⟩ := FA _ (below_trans hB hw9 hz))); go_simp; with_reducible rfl); simp only [Act.put, List.setIfInBounds_toArray, List.set_cons_zero, List.set_cons_succ])))
            | (refine EffT.is (some 5) rfl ?_
               apply EffT.go
               · rfl
               intro KE hKE
               go_wp2_with fail
               refine eff_abs hKE (fun W' => Below wc.heap.size wc W' ∧ Blk W' wc.heap.size 24 (rgv reg0 (none, 0, 0))) ⟨(Below.refl _ _).alloc (Nat.le_refl _) _, Blk.new wc 24 (rgv reg0 (none, 0, 0))⟩ (fun W' h => hTP' _ (below_trans hQ h.1 hQ.size)) ?_
               rintro wd ⟨hb, hZ0⟩
               have hQ' := below_trans hQ hb hQ.size
               have hgz := hQ.size
               generalize wc.heap.size = gz at hZ0 hgz ⊢
               clear hKE KE hQ
               try replace hR := hR.keep hb
               clear hb
               try clear wc
               obtain ⟨wc, rfl⟩ : ∃ z, z = wd := ⟨_, rfl⟩
               have hZ := hZ0
               clear hZ0
               have hQ := hQ'
               clear hQ'
               go_wp2_with (first
                 | (apply SeqT.skip; rfl; simp only [Act.put, List.setIfInBounds_toArray, List.set_cons_zero, List.set_cons_succ])
                 | (apply SeqT.pure; rfl; (intro w9 hw9; have hw9 := hTP _ hw9; exact exec_load_blk 24 _ rfl _ rfl _ _ (B1.keep hw9) _ Try.underlying24 rfl rg_info); simp only [Act.put, List.setIfInBounds_toArray, List.set_cons_zero, List.set_cons_succ])
                 | (apply SeqT.pure; rfl; (intro w9 hw9; have hw9 := hTP _ hw9; ((obtain ⟨q0, q1, q2, q3, q4, q5, q6, q7⟩ := FA _ (below_trans hB hw9 hz))); go_simp; with_reducible rfl); simp only [Act.put, List.setIfInBounds_toArray, List.set_cons_zero, List.set_cons_succ])))
          all_goals first | apply SeqT.two | apply SeqT.one
          all_goals first
            | (refine EffT.is (some 24) rfl ?_
               apply EffT.go
               · rfl
               intro KE hKE
               go_wp2_with fail
               refine (apply_get s x wc HQ.out (HS.out.keep hQ) (HX.out.keep (below_trans hB hQ hz)) (by omega)).mono ?_
               rintro e wd ⟨sr, rfl, hR0, hb⟩
               have hQ' := below_trans hQ hb hQ.size
               refine hKE _ _ (hTP' _ hQ') ?_
               clear hKE KE hQ
               try replace hZ := hZ.keep hb
               clear hb
               try clear wc
               obtain ⟨wc, rfl⟩ : ∃ z, z = wd := ⟨_, rfl⟩
               have hR := hR0
               clear hR0
               have hQ := hQ'
               clear hQ'
               go_wp2_with (first
                 | (apply SeqT.skip; rfl; simp only [Act.put, List.setIfInBounds_toArray, List.set_cons_zero, List.set_cons_succ])
                 | (apply SeqT.pure; rfl; (intro w9 hw9; have hw9 := hTP _ hw9; exact exec_load_blk 24 _ rfl _ rfl _ _ (B1.keep hw9) _ Try.underlying24 rfl rg_info); simp only [Act.put, List.setIfInBounds_toArray, List.set_cons_zero, List.set_cons_succ])
                 | (apply SeqT.pure; rfl; (intro w9 hw9; have hw9 := hTP _ hw9; ((obtain ⟨q0, q1, q2, q3, q4, q5, q6, q7⟩ := FA _ (below_trans hB hw9 hz))); go_simp; with_reducible rfl); simp only [Act.put, List.setIfInBounds_toArray, List.set_cons_zero, List.set_cons_succ])))
            | (refine EffT.is (some 5) rfl ?_
               apply EffT.go
               · rfl
               intro KE hKE
               go_wp2_with fail
               refine eff_abs hKE (fun W' => Below wc.heap.size wc W' ∧ Blk W' wc.heap.size 24 (rgv reg0 (none, 0, 0))) ⟨(Below.refl _ _).alloc (Nat.le_refl _) _, Blk.new wc 24 (rgv reg0 (none, 0, 0))⟩ (fun W' h => hTP' _ (below_trans hQ h.1 hQ.size)) ?_
               rintro wd ⟨hb, hZ0⟩
               have hQ' := below_trans hQ hb hQ.size
               have hgz := hQ.size
               generalize wc.heap.size = gz at hZ0 hgz ⊢
               clear hKE KE hQ
               try replace hR := hR.keep hb
               clear hb
               try clear wc
               obtain ⟨wc, rfl⟩ : ∃ z, z = wd := ⟨_, rfl⟩
               have hZ := hZ0
               clear hZ0
               have hQ := hQ'
               clear hQ'
               go_wp2_with (first
                 | (apply SeqT.skip; rfl; simp only [Act.put, List.setIfInBounds_toArray, List.set_cons_zero, List.set_cons_succ])
                 | (apply SeqT.pure; rfl; (intro w9 hw9; have hw9 := hTP _ hw9; exact exec_load_blk 24 _ rfl _ rfl _ _ (B1.keep hw9) _ Try.underlying24 rfl rg_info); simp only [Act.put, List.setIfInBounds_toArray, List.set_cons_zero, List.set_cons_succ])
                 | (apply SeqT.pure; rfl; (intro w9 hw9; have hw9 := hTP _ hw9; ((obtain ⟨q0, q1, q2, q3, q4, q5, q6, q7⟩ := FA _ (below_trans hB hw9 hz))); go_simp; with_reducible rfl); simp only [Act.put, List.setIfInBounds_toArray, List.set_cons_zero, List.set_cons_succ])))
          all_goals first | apply SeqT.two | apply SeqT.one
          all_goals
            refine EffT.is none rfl ?_
            apply EffT.go
            · rfl
            intro KE hKE
            refine wp_store_own 24 _ _ rfl _ (rgv q sr) rfl rfl _ _ hZ rg_info rfl (rgv_one _ _) ?_
            intro wd B5 g5
            have hQ' := hQ.trans (below_grown g5 hgz hQ.size)
            have hR5 := hR.stored hZ (by simp [rgv]) g5
            refine hKE _ _ (hTP' _ hQ') ?_
            clear hKE KE
            go_wp2_with (first
              | (apply SeqT.skip; rfl; simp only [Act.put, List.setIfInBounds_toArray, List.set_cons_zero, List.set_cons_succ])
              | (apply SeqT.pure; rfl; (intro w9 hw9; have hw9 := hTP _ hw9; exact exec_load_blk 24 _ rfl _ rfl _ _ (B1.keep hw9) _ Try.underlying24 rfl rg_info); simp only [Act.put, List.setIfInBounds_toArray, List.set_cons_zero, List.set_cons_succ])
              | (apply SeqT.pure; rfl; (intro w9 hw9; have hw9 := hTP _ hw9; ((obtain ⟨q0, q1, q2, q3, q4, q5, q6, q7⟩ := FA _ (below_trans hB hw9 hz))); go_simp; with_reducible rfl); simp only [Act.put, List.setIfInBounds_toArray, List.set_cons_zero, List.set_cons_succ]))
            apply SeqT.done
            exact HK gz sr wd ⟨hQ', hgz, B5, hR5⟩
        intro g s2 w3 ⟨hb3, hge, B3, R3⟩
        refine hKP _ _ (hTP' _ hb3) ?_
        clear hKP hTP hTP'
        have hB3 := below_trans hB hb3 hz
        have C1 := B1.keep hb3
        have HS3 := Lib.hid (HS.out.keep hb3)
        have R3' := Lib.hid R3
        have l1 := C1.lt
        have hz3 := hB3.size
        clear R3 B1 HS hB hb3
        try clear wq
        cases b with
        | false =>
          go_wp2_with fail
          go_roundg (l.length - (j + 1))
          case measure => have hkk := AA.out; omega
          case rel => exact ⟨j + 1, r, s, rfl, by omega, by go_num, hB3, C1, HS3.out⟩
        | true =>
          obtain ⟨⟨q2, b2⟩, hqb⟩ : ∃ z, regR (applyR q x.s) = z := ⟨_, rfl⟩
          have HQ2 := Lib.hid hqb
          clear hqb
          obtain ⟨wq, rfl⟩ : ∃ z, z = w3 := ⟨_, rfl⟩
          go_wp2_with fail
          refine wp_region_t (.quiet 0 (.quiet 1 (.quiet 2 (.quiet 3 (.quiet 4 (.two 5 9 (.quiet 6 (.quiet 7 (.quiet 8 (.one 9 (.one 10 (.quiet 11 .done)))))) (.one 5 (.quiet 6 (.quiet 7 (.quiet 8 (.one 10 (.quiet 11 .done)))))))))))) (fun w' => Below wq.heap.size wq w') (by kernel_rfl) (by kernel_rfl) (by kernel_rfl) (by kernel_rfl) ((Below.refl _ _).drew) rfl ?_
          intro KP RP TP hKP hTP hTP'
          simp only [Sch.fill, nth]
          apply merge2 (Inv := fun g s w' => Below wq.heap.size wq w' ∧ wq.heap.size ≤ g ∧ Blk w' g 24 (rgv q2 s) ∧ LogAt w' w'.heap.size s (q2).log) (K := KP)
          · intro HK
            have hQ : Below wq.heap.size wq wq.drew := (Below.refl _ _).drew
            generalize wq.drew = wc at hQ ⊢
            go_wp2_with (first
              | (apply SeqT.skip; rfl; simp only [Act.put, List.setIfInBounds_toArray, List.set_cons_zero, List.set_cons_succ])
              | (apply SeqT.pure; rfl; (intro w9 hw9; have hw9 := hTP _ hw9; exact exec_load_blk 24 _ rfl _ rfl _ _ (B3.keep hw9) _ Try.underlying24 rfl rg_info); simp only [Act.put, List.setIfInBounds_toArray, List.set_cons_zero, List.set_cons_succ])
              | (apply SeqT.pure; rfl; (intro w9 hw9; have hw9 := hTP _ hw9; ((obtain ⟨q0, q1, q2, q3, q4, q5, q6, q7⟩ := FA _ (below_trans hB3 hw9 hz3))); go_simp; with_reducible rfl); simp only [Act.put, List.setIfInBounds_toArray, List.set_cons_zero, List.set_cons_succ]))
            all_goals first | apply SeqT.two | apply SeqT.one
            all_goals first
              | (refine EffT.is (some 35) rfl ?_
                 apply EffT.go
                 · rfl
                 intro KE hKE
                 go_wp2_with fail
                 refine (apply_get s2 x wc HQ2.out (R3'.out.keep hQ) (HX.out.keep (below_trans hB3 hQ hz3)) (by omega)).mono ?_
                 rintro e wd ⟨sr, rfl, hR0, hb⟩
                 have hQ' := below_trans hQ hb hQ.size
                 refine hKE _ _ (hTP' _ hQ') ?_
                 clear hKE KE hQ
                 try replace hZ := hZ.keep hb
                 clear hb
                 try clear wc
                 obtain ⟨wc, rfl⟩ : ∃ z, z = wd := ⟨_, rfl⟩
                 have hR := hR0
                 clear hR0
                 have hQ := hQ'
                 clear hQ'
                 go_wp2_with (first
                   | (apply SeqT.skip; rfl; simp only [Act.put, List.setIfInBounds_toArray, List.set_cons_zero, List.set_cons_succ])
                   | (apply SeqT.pure; rfl; (intro w9 hw9; have hw9 := hTP _ hw9; exact exec_load_blk 24 _ rfl _ rfl _ _ (B3.keep hw9) _ Try.underlying24 rfl rg_info); simp only [Act.put, List.setIfInBounds_toArray, List.set_cons_zero, List.set_cons_succ])
                   | (apply SeqT.pure; rfl; (intro w9 hw9; have hw9 := hTP _ hw9; ((obtain ⟨q0, q1, q2, q3, q4, q5, q6, q7⟩ := FA _ (below_trans hB3 hw9 hz3))); go_simp; with_reducible rfl); simp only [Act.put, List.setIfInBounds_toArray, List.set_cons_zero, List.set_cons_succ])))
              | (refine EffT.is (some 7) rfl ?_
                 apply EffT.go
                 · rfl
                 intro KE hKE
                 go_wp2_with fail
                 refine eff_abs hKE (fun W' => Below wc.heap.size wc W' ∧ Blk W' wc.heap.size 24 (rgv reg0 (none, 0, 0))) ⟨(Below.refl _ _).alloc (Nat.le_refl _) _, Blk.new wc 24 (rgv reg0 (none, 0, 0))⟩ (fun W' h => hTP' _ (below_trans hQ h.1 hQ.size)) ?_
                 rintro wd ⟨hb, hZ0⟩
                 have hQ' := below_trans hQ hb hQ.size
                 have hgz := hQ.size
                 generalize wc.heap.size = gz at hZ0 hgz ⊢
                 clear hKE KE hQ
                 try replace hR := hR.keep hb
                 clear hb
                 try clear wc
                 obtain ⟨wc, rfl⟩ : ∃ z, z = wd := ⟨_, rfl⟩
                 have hZ := hZ0
                 clear hZ0
                 have hQ := hQ'
                 clear hQ'
                 go_wp2_with (first
                   | (apply SeqT.skip; rfl; simp only [Act.put, List.setIfInBounds_toArray, List.set_cons_zero, List.set_cons_succ])
                   | (apply SeqT.pure; rfl; (intro w9 hw9; have hw9 := hTP _ hw9; exact exec_load_blk 24 _ rfl _ rfl _ _ (B3.keep hw9) _ Try.underlying24 rfl rg_info); simp only [Act.put, List.setIfInBounds_toArray, List.set_cons_zero, List.set_cons_succ])
                   | (apply SeqT.pure; rfl; (intro w9 hw9; have hw9 := hTP _ hw9; ((obtain ⟨q0, q1, q2, q3, q4, q5, q6, q7⟩ := FA _ (below_trans hB3 hw9 hz3))); go_simp; with_reducible rfl); simp only [Act.put, List.setIfInBounds_toArray, List.set_cons_zero, List.set_cons_succ])))
            all_goals first | apply SeqT.two | apply SeqT.one
            all_goals first
              | (refine EffT.is (some 35) rfl ?_
                 apply EffT.go
                 · rfl
                 intro KE hKE
                 go_wp2_with fail
                 refine (apply_get s2 x wc HQ2.out (R3'.out.keep hQ) (HX.out.keep (below_trans hB3 hQ hz3)) (by omega)).mono ?_
                 rintro e wd ⟨sr, rfl, hR0, hb⟩
                 have hQ' := below_trans hQ hb hQ.size
                 refine hKE _ _ (hTP' _ hQ') ?_
                 clear hKE KE hQ
                 try replace hZ := hZ.keep hb
                 clear hb
                 try clear wc
                 obtain ⟨wc, rfl⟩ : ∃ z, z = wd := ⟨_, rfl⟩
                 have hR := hR0
                 clear hR0
                 have hQ := hQ'
                 clear hQ'
                 go_wp2_with (first
                   | (apply SeqT.skip; rfl; simp only [Act.put, List.setIfInBounds_toArray, List.set_cons_zero, List.set_cons_succ])
                   | (apply SeqT.pure; rfl; (intro w9 hw9; have hw9 := hTP _ hw9; exact exec_load_blk 24 _ rfl _ rfl _ _ (B3.keep hw9) _ Try.underlying24 rfl rg_info); simp only [Act.put, List.setIfInBounds_toArray, List.set_cons_zero, List.set_cons_succ])
                   | (apply SeqT.pure; rfl; (intro w9 hw9; have hw9 := hTP _ hw9; ((obtain ⟨q0, q1, q2, q3, q4, q5, q6, q7⟩ := FA _ (below_trans hB3 hw9 hz3))); go_simp; with_reducible rfl); simp only [Act.put, List.setIfInBounds_toArray, List.set_cons_zero, List.set_cons_succ])))
              | (refine EffT.is (some 7) rfl ?_
                 apply EffT.go
                 · rfl
                 intro KE hKE
                 go_wp2_with fail
                 refine eff_abs hKE (fun W' => Below wc.heap.size wc W' ∧ Blk W' wc.heap.size 24 (rgv reg0 (none, 0, 0))) ⟨(Below.refl _ _).alloc (Nat.le_refl _) _, Blk.new wc 24 (rgv reg0 (none, 0, 0))⟩ (fun W' h => hTP' _ (below_trans hQ h.1 hQ.size)) ?_
                 rintro wd ⟨hb, hZ0⟩
                 have hQ' := below_trans hQ hb hQ.size
                 have hgz := hQ.size
                 generalize wc.heap.size = gz at hZ0 hgz ⊢
                 clear hKE KE hQ
                 try replace hR := hR.keep hb
                 clear hb
                 try clear wc
                 obtain ⟨wc, rfl⟩ : ∃ z, z = wd := ⟨_, rfl⟩
                 have hZ := hZ0
                 clear hZ0
                 have hQ := hQ'
                 clear hQ'
                 go_wp2_with (first
                   | (apply SeqT.skip; rfl; simp only [Act.put, List.setIfInBounds_toArray, List.set_cons_zero, List.set_cons_succ])
                   | (apply SeqT.pure; rfl; (intro w9 hw9; have hw9 := hTP _ hw9; exact exec_load_blk 24 _ rfl _ rfl _ _ (B3.keep hw9) _ Try.underlying24 rfl rg_info); simp only [Act.put, List.setIfInBounds_toArray, List.set_cons_zero, List.set_cons_succ])
                   | (apply SeqT.pure; rfl; (intro w9 hw9; have hw9 := hTP _ hw9; ((obtain ⟨q0, q1, q2, q3, q4, q5, q6, q7⟩ := FA _ (below_trans hB3 hw9 hz3))); go_simp; with_reducible rfl); simp only [Act.put, List.setIfInBounds_toArray, List.set_cons_zero, List.set_cons_succ])))
            all_goals first | apply SeqT.two | apply SeqT.one
            all_goals
              refine EffT.is none rfl ?_
              apply EffT.go
              · rfl
              intro KE hKE
              refine wp_store_own 24 _ _ rfl _ (rgv q2 sr) rfl rfl _ _ hZ rg_info rfl (rgv_one _ _) ?_
              intro wd B5 g5
              have hQ' := hQ.trans (below_grown g5 hgz hQ.size)
              have hR5 := hR.stored hZ (by simp [rgv]) g5
              refine hKE _ _ (hTP' _ hQ') ?_
              clear hKE KE
              go_wp2_with (first
                | (apply SeqT.skip; rfl; simp only [Act.put, List.setIfInBounds_toArray, List.set_cons_zero, List.set_cons_succ])
                | (apply SeqT.pure; rfl; (intro w9 hw9; have hw9 := hTP _ hw9; exact exec_load_blk 24 _ rfl _ rfl _ _ (B3.keep hw9) _ Try.underlying24 rfl rg_info); simp only [Act.put, List.setIfInBounds_toArray, List.set_cons_zero, List.set_cons_succ])
                | (apply SeqT.pure; rfl; (intro w9 hw9; have hw9 := hTP _ hw9; ((obtain ⟨q0, q1, q2, q3, q4, q5, q6, q7⟩ := FA _ (below_trans hB3 hw9 hz3))); go_simp; with_reducible rfl); simp only [Act.put, List.setIfInBounds_toArray, List.set_cons_zero, List.set_cons_succ]))
              apply SeqT.done
              exact HK gz sr wd ⟨hQ', hgz, B5, hR5⟩
          intro g2 s3 w4 ⟨hb4, hge4, B4, R4⟩
          refine hKP _ _ (hTP' _ hb4) ?_
          clear hKP hTP hTP'
          have hB4 := below_trans hB3 hb4 hz3
          have D1 := C1.keep hb4
          have D3 := B3.keep hb4
          have R3'' := Lib.hid (R3'.out.keep hb4)
          have R4' := Lib.hid R4
          have m1 := D1.lt
          have hz4 := hB4.size
          clear R4 C1 B3 R3' HS3 hB3 hb4
          try clear wq
          cases b2 with
          | false =>
            go_wp2_with ((with_reducible refine at_list ?_); first | refine wpList_load_blk rfl 24 _ rfl _ rfl _ _ _ (D3) Try.underlying24 rfl rg_info ?_ | (refine wpList_store_own rfl 24 _ _ rfl _ (rgv q s2) rfl rfl _ _ (D1) rg_info rfl (rgv_one _ _) ?_; intro w5 E1 g5))
            have hB5 := hB4.trans (below_grown g5 (Nat.le_refl _) hz4)
            go_roundg (l.length - (j + 1))
            case measure => have hkk := AA.out; omega
            case rel => exact ⟨j + 1, q, s2, rfl, by omega, by go_num, hB5, E1, R3''.out.stored D1 (by simp [rgv]) g5⟩
          | true =>
            have hqq : q = q2 := (apply_twice (regR_some HQ.out) (regR_some HQ2.out)).symm
            have HQQ := Lib.hid hqq
            clear hqq
            go_wp2_with ((with_reducible refine at_list ?_); first | refine wpList_load_blk_g 24 _ rfl rfl _ rfl _ _ _ (D3) Try.underlying24 rfl rg_info ?_ | refine wpList_load_blk_g 24 _ rfl rfl _ rfl _ _ _ (B4) Try.underlying24 rfl rg_info ?_)
            refine (samereg_any q q2 s2 s3 _ R3''.out R4'.out HQQ.out).mono ?_
            rintro e w5 ⟨rfl, hb5⟩
            have hB5 := below_trans hB4 hb5 hz4
            have E1 := D1.keep hb5
            have E3 := D3.keep hb5
            have R5 := Lib.hid (R3''.out.keep hb5)
            have hz5 := hB5.size
            clear hB4 hb5 D1 D3 R3'' R4' B4
            go_wp2_with ((with_reducible refine at_list ?_); first | refine wpList_load_blk rfl 24 _ rfl _ rfl _ _ _ (E3) Try.underlying24 rfl rg_info ?_ | (refine wpList_store_own rfl 24 _ _ rfl _ (rgv q s2) rfl rfl _ _ (E1) rg_info rfl (rgv_one _ _) ?_; intro w6 F1 g6))
            have hB6 := hB5.trans (below_grown g6 (Nat.le_refl _) hz5)
            go_roundg (l.length - (j + 1))
            case measure => have hkk := AA.out; omega
            case rel => exact ⟨j + 1, q, s2, rfl, by omega, by go_num, hB6, F1, R5.out.stored E1 (by simp [rgv]) g6⟩
      · obtain rfl : j = l.length := by omega
        have hz := hB.size
        go_wp2_with fail
        refine (lives15_any _).mono ?_
        rintro e w2 ⟨rfl, hb⟩
        have hB2 := below_trans hB hb hz
        go_wp2_with fail
        go_ret
        exact ⟨rfl, hB2⟩
end Go.Proofs.Ytbicefilfhcgoaa
