/-
  The walk over the statement RegisterPlays.
-/
import Derived.Test.YtbicefilfhcgoaaRegLives
import Derived.Test.YtbicefilfhcgoaaRegGet
set_option linter.unusedSimpArgs false
set_option linter.unusedVariables false
set_option maxRecDepth 100000
namespace Go.Proofs.Ytbicefilfhcgoaa
open Go Go.RowKit Go.Sq Go.Wd Go.Arch

set_option maxHeartbeats 8000000 in
theorem registerPlays_walk (l : List RecV) (A : Option Addr) (c : Nat) (w : World) (hl : Recs w w.heap.size A l) (hn : l.length ≤ 9223372036854775807) :
    Calls Try.prog 4 #[.slice A l.length c] w fun e w' => e = .returned (.bool true) ∧ Below w.heap.size w w' := by
  have HE := Lib.hid hl
  clear hl
  by_cases h60 : 60 < l.length
  case pos =>
    go_enter Try.func4, Try.ntmps4
    go_wp2_with fail
    refine (lives15_any _).mono ?_
    rintro e w2 ⟨rfl, hb⟩
    go_wp2_with fail
    go_ret
    exact ⟨rfl, hb⟩
  have h60' : l.length ≤ 60 := by omega
  have hw0 : Below w.heap.size w ((w.alloc (.cells (rgv reg0 (none, 0, 0)).toArray 24)).alloc (.cells (rgv reg0 (none, 0, 0)).toArray 24)) := ((Below.refl _ _).alloc (Nat.le_refl _) _).alloc (by simp) _
  have B0 : Blk ((w.alloc (.cells (rgv reg0 (none, 0, 0)).toArray 24)).alloc (.cells (rgv reg0 (none, 0, 0)).toArray 24)) w.heap.size 24 (rgv reg0 (none, 0, 0)) := (Blk.new w _ _).alloc _
  have B1 : Blk ((w.alloc (.cells (rgv reg0 (none, 0, 0)).toArray 24)).alloc (.cells (rgv reg0 (none, 0, 0)).toArray 24)) (w.heap.size + 1) 24 (rgv reg0 (none, 0, 0)) := Blk.newAt _ _ _ (by simp)
  have HH := Lib.hid (And.intro hw0 (And.intro B0 B1))
  clear hw0 B0 B1
  go_enter Try.func4, Try.ntmps4
  go_wp2_with fail
  go_loopg [5] l.length (fun q i wr => ∃ (j : Nat) (r : RegS) (s t : SlcE), q = l.length - j ∧ j ≤ l.length ∧ i = .int .i64 j ∧ Below w.heap.size w wr ∧ Blk wr w.heap.size 24 (rgv r s) ∧ Blk wr (w.heap.size + 1) 24 (rgv r t) ∧ LogAt wr wr.heap.size s r.log ∧ LogAt wr wr.heap.size t r.log)
  case atStart => exact ⟨0, reg0, (none, 0, 0), (none, 0, 0), rfl, by omega, rfl, HH.out.1, HH.out.2.1, HH.out.2.2, LogAt.nil, LogAt.nil⟩
  case round =>
    clear HH
    obtain ⟨j, r, s, t, hq, hj, rfl, hB, B0, B1, hS, hT⟩ := hrel
    have AA : Aside (gk = l.length - j) := hq
    clear hq
    obtain ⟨wq, rfl⟩ : ∃ z, z = wr := ⟨_, rfl⟩
    by_cases hlt : j < l.length
    · obtain ⟨b1, o1, x, rfl, hx, FA, HX⟩ := HE.out.at_ hlt
      have hxn : x.es.2.1 = x.ents.length := HX.out.1
      have hx6 := (FA _ hB).2.2.2.2.2.2.1
      rw [hxn] at hx6
      clear hxn
      have hz := hB.size
      by_cases h1 : 100 < x.ents.length
      · have h1b : (100 : Int) < (x.ents.length : Int) := by omega
        go_wp2_with fail
        refine (lives15_any _).mono ?_
        rintro e w2 ⟨rfl, hb⟩
        have hB2 := below_trans hB hb hz
        go_wp2_with fail
        go_ret
        exact ⟨rfl, hB2⟩
      have h1b : ¬ (100 : Int) < (x.ents.length : Int) := by omega
      have hx2 : x.ents.length ≤ 100 := by omega
      obtain ⟨⟨q, b⟩, hqb⟩ : ∃ z, regR (applyR r x.s) = z := ⟨_, rfl⟩
      have HQ := Lib.hid hqb
      have HS := Lib.hid (And.intro hS hT)
      clear hqb hS hT
      go_wp2_with fail
      clear hx6 h1b
      refine wp_region_t (.quiet 0 (.quiet 1 (.quiet 2 (.quiet 3 (.quiet 4 (.two 5 9 (.quiet 6 (.quiet 7 (.quiet 8 (.one 9 (.one 10 (.quiet 11 .done)))))) (.one 5 (.quiet 6 (.quiet 7 (.quiet 8 (.one 10 (.quiet 11 .done)))))))))))) (fun w' => Below wq.heap.size wq w') (by kernel_rfl) (by kernel_rfl) (by kernel_rfl) (by kernel_rfl) ((Below.refl _ _).drew) rfl ?_
      intro KP RP TP hKP hTP hTP'
      simp only [Sch.fill, nth]
      apply merge2 (Inv := fun g s w' => Below wq.heap.size wq w' ∧ wq.heap.size ≤ g ∧ Blk w' g 24 (rgv q s) ∧ LogAt w' w'.heap.size s (q).log) (K := KP)
      · intro HK
        have hQ : Below wq.heap.size wq wq.drew := (Below.refl _ _).drew
        generalize wq.drew = wc at hQ ⊢
        go_wp2_with (first
          | (apply SeqT.skip; rfl; simp only [Act.put, List.setIfInBounds_toArray, List.set_cons_zero, List.set_cons_succ])
          | (apply SeqT.pure; rfl; (intro w9 hw9; have hw9 := hTP _ hw9; exact exec_load_blk 24 _ rfl _ rfl _ _ (B0.keep hw9) _ Try.underlying24 rfl rg_info); simp only [Act.put, List.setIfInBounds_toArray, List.set_cons_zero, List.set_cons_succ])
          | (apply SeqT.pure; rfl; (intro w9 hw9; have hw9 := hTP _ hw9; ((obtain ⟨q0, q1, q2, q3, q4, q5, q6, q7⟩ := FA _ (below_trans hB hw9 hz))); go_simp; with_reducible rfl); simp only [Act.put, List.setIfInBounds_toArray, List.set_cons_zero, List.set_cons_succ]))
        all_goals first | apply SeqT.two | apply SeqT.one
        all_goals first
          | (refine EffT.is (some 34) rfl ?_
             apply EffT.go
             · rfl
             intro KE hKE
             go_wp2_with fail
             refine (apply_get s x wc HQ.out (HS.out.1.keep hQ) (HX.out.keep (below_trans hB hQ hz)) (by omega)).mono ?_
             rintro e wd ⟨sr, rfl, hR0, hb⟩
             have hQ' := below_trans hQ hb hQ.size
             refine hKE _ _ (hTP' _ hQ') ?_
             clear hKE KE hQ
             try replace hZ := hZ.keep hb
             clear hb
             try clear wc
             obtain ⟨wc, rfl⟩ : ∃ z, z = wd := ⟨_, rfl⟩
             have hR := hR0
             clear hR0
             have hQ := hQ'
             clear hQ'
             go_wp2_with (first
               | (apply SeqT.skip; rfl; simp only [Act.put, List.setIfInBounds_toArray, List.set_cons_zero, List.set_cons_succ])
               | (apply SeqT.pure; rfl; (intro w9 hw9; have hw9 := hTP _ hw9; exact exec_load_blk 24 _ rfl _ rfl _ _ (B0.keep hw9) _ Try.underlying24 rfl rg_info); simp only [Act.put, List.setIfInBounds_toArray, List.set_cons_zero, List.set_cons_succ])
               | (apply SeqT.pure; rfl; (intro w9 hw9; have hw9 := hTP _ hw9; ((obtain ⟨q0, q1, q2, q3, q4, q5, q6, q7⟩ := FA _ (below_trans hB hw9 hz))); go_simp; with_reducible rfl); simp only [Act.put, List.setIfInBounds_toArray, List.set_cons_zero, List.set_cons_succ])))
          | (refine EffT.is (some 6) rfl ?_
             apply EffT.go
             · rfl
             intro KE hKE
             go_wp2_with fail
             refine eff_abs hKE (fun W' => Below wc.heap.size wc W' ∧ Blk W' wc.heap.size 24 (rgv reg0 (none, 0, 0))) ⟨(Below.refl _ _).alloc (Nat.le_refl _) _, Blk.new wc 24 (rgv reg0 (none, 0, 0))⟩ (fun W' h => hTP' _ (below_trans hQ h.1 hQ.size)) ?_
             rintro wd ⟨hb, hZ0⟩
             have hQ' := below_trans hQ hb hQ.size
             have hgz := hQ.size
             generalize wc.heap.size = gz at hZ0 hgz ⊢
             clear hKE KE hQ
             try replace hR := hR.keep hb
             clear hb
             try clear wc
             obtain ⟨wc, rfl⟩ : ∃ z, z = wd := ⟨_, rfl⟩
             have hZ := hZ0
             clear hZ0
             have hQ := hQ'
             clear hQ'
             go_wp2_with (first
               | (apply SeqT.skip; rfl; simp only [Act.put, List.setIfInBounds_toArray, List.set_cons_zero, List.set_cons_succ])
               | (apply SeqT.pure; rfl; (intro w9 hw9; have hw9 := hTP _ hw9; exact exec_load_blk 24 _ rfl _ rfl _ _ (B0.keep hw9) _ Try.underlying24 rfl rg_info); simp only [Act.put, List.setIfInBounds_toArray, List.set_cons_zero, List.set_cons_succ])
               | (apply SeqT.pure; rfl; (intro w9 hw9; have hw9 := hTP _ hw9; ((obtain ⟨q0, q1, q2, q3, q4, q5, q6, q7⟩ := FA _ (below_trans hB hw9 hz))); go_simp; with_reducible rfl); simp only [Act.put, List.setIfInBounds_toArray, List.set_cons_zero, List.set_cons_succ])))
        all_goals first | apply SeqT.two | apply SeqT.one
        all_goals first
          | (refine EffT.is (some 34) rfl ?_
             apply EffT.go
             · rfl
             intro KE hKE
             go_wp2_with fail
             refine (apply_get s x wc HQ.out (HS.out.1.keep hQ) (HX.out.keep (below_trans hB hQ hz)) (by omega)).mono ?_
             rintro e wd ⟨sr, rfl, hR0, hb⟩
             have hQ' := below_trans hQ hb hQ.size
             refine hKE _ _ (hTP' _ hQ') ?_
             clear hKE KE hQ
             try replace hZ := hZ.keep hb
             clear hb
             try clear wc
             obtain ⟨wc, rfl⟩ : ∃ z, z = wd := ⟨_, rfl⟩
             have hR := hR0
             clear hR0
             have hQ := hQ'
             clear hQ'
             go_wp2_with (first
               | (apply SeqT.skip; rfl; simp only [Act.put, List.setIfInBounds_toArray, List.set_cons_zero, List.set_cons_succ])
               | (apply SeqT.pure; rfl; (intro w9 hw9; have hw9 := hTP _ hw9; exact exec_load_blk 24 _ rfl _ rfl _ _ (B0.keep hw9) _ Try.underlying24 rfl rg_info); simp only [Act.put, List.setIfInBounds_toArray, List.set_cons_zero, List.set_cons_succ])
               | (apply SeqT.pure; rfl; (intro w9 hw9; have hw9 := hTP _ hw9; ((obtain ⟨q0, q1, q2, q3, q4, q5, q6, q7⟩ := FA _ (below_trans hB hw9 hz))); go_simp; with_reducible rfl); simp only [Act.put, List.setIfInBounds_toArray, List.set_cons_zero, List.set_cons_succ])))
          | (refine EffT.is (some 6) rfl ?_
             apply EffT.go
             · rfl
             intro KE hKE
             go_wp2_with fail
             refine eff_abs hKE (fun W' => Below wc.heap.size wc W' ∧ Blk W' wc.heap.size 24 (rgv reg0 (none, 0, 0))) ⟨(Below.refl _ _).alloc (Nat.le_refl _) _, Blk.new wc 24 (rgv reg0 (none, 0, 0))⟩ (fun W' h => hTP' _ (below_trans hQ h.1 hQ.size)) ?_
             rintro wd ⟨hb, hZ0⟩
             have hQ' := below_trans hQ hb hQ.size
             have hgz := hQ.size
             generalize wc.heap.size = gz at hZ0 hgz ⊢
             clear hKE KE hQ
             try replace hR := hR.keep hb
             clear hb
             try clear wc
             obtain ⟨wc, rfl⟩ : ∃ z, z = wd := ⟨_, rfl⟩
             have hZ := hZ0
             clear hZ0
             have hQ := hQ'
             clear hQ'
             go_wp2_with (first
               | (apply SeqT.skip; rfl; simp only [Act.put, List.setIfInBounds_toArray, List.set_cons_zero, List.set_cons_succ])
               | (apply SeqT.pure; rfl; (intro w9 hw9; have hw9 := hTP _ hw9; exact exec_load_blk 24 _ rfl _ rfl _ _ (B0.keep hw9) _ Try.underlying24 rfl rg_info); simp only [Act.put, List.setIfInBounds_toArray, List.set_cons_zero, List.set_cons_succ])
               | (apply SeqT.pure; rfl; (intro w9 hw9; have hw9 := hTP _ hw9; ((obtain ⟨q0, q1, q2, q3, q4, q5, q6, q7⟩ := FA _ (below_trans hB hw9 hz))); go_simp; with_reducible rfl); simp only [Act.put, List.setIfInBounds_toArray, List.set_cons_zero, List.set_cons_succ])))
        all_goals first | apply SeqT.two | apply SeqT.one
        all_goals
          refine EffT.is none rfl ?_
          apply EffT.go
          · rfl
          intro KE hKE
          refine wp_store_own 24 _ _ rfl _ (rgv q sr) rfl rfl _ _ hZ rg_info rfl (rgv_one _ _) ?_
          intro wd B5 g5
          have hQ' := hQ.trans (below_grown g5 hgz hQ.size)
          have hR5 := hR.stored hZ (by simp [rgv]) g5
          refine hKE _ _ (hTP' _ hQ') ?_
          clear hKE KE
          go_wp2_with (first
            | (apply SeqT.skip; rfl; simp only [Act.put, List.setIfInBounds_toArray, List.set_cons_zero, List.set_cons_succ])
            | (apply SeqT.pure; rfl; (intro w9 hw9; have hw9 := hTP _ hw9; exact exec_load_blk 24 _ rfl _ rfl _ _ (B0.keep hw9) _ Try.underlying24 rfl rg_info); simp only [Act.put, List.setIfInBounds_toArray, List.set_cons_zero, List.set_cons_succ])
            | (apply SeqT.pure; rfl; (intro w9 hw9; have hw9 := hTP _ hw9; ((obtain ⟨q0, q1, q2, q3, q4, q5, q6, q7⟩ := FA _ (below_trans hB hw9 hz))); go_simp; with_reducible rfl); simp only [Act.put, List.setIfInBounds_toArray, List.set_cons_zero, List.set_cons_succ]))
          apply SeqT.done
          exact HK gz sr wd ⟨hQ', hgz, B5, hR5⟩
      intro g s2 w3 ⟨hb3, hge, B3, R3⟩
      refine hKP _ _ (hTP' _ hb3) ?_
      clear hKP hTP hTP'
      have hB3 := below_trans hB hb3 hz
      have C0 := B0.keep hb3
      have C1 := B1.keep hb3
      have HS3 := Lib.hid (And.intro (HS.out.1.keep hb3) (And.intro (HS.out.2.keep hb3) R3))
      have hz3 := hB3.size
      have lC1 := B1.lt
      have hg3 : w.heap.size + 1 < g := by omega
      clear R3 B0 B1 HS hB hb3 lC1 hge
      try clear wq
      obtain ⟨wq, rfl⟩ : ∃ z, z = w3 := ⟨_, rfl⟩
      go_wp2_with fail
      refine wp_region_t (.quiet 0 (.quiet 1 (.quiet 2 (.quiet 3 (.quiet 4 (.two 5 9 (.quiet 6 (.quiet 7 (.quiet 8 (.one 9 (.one 10 (.quiet 11 .done)))))) (.one 5 (.quiet 6 (.quiet 7 (.quiet 8 (.one 10 (.quiet 11 .done)))))))))))) (fun w' => Below wq.heap.size wq w') (by kernel_rfl) (by kernel_rfl) (by kernel_rfl) (by kernel_rfl) ((Below.refl _ _).drew) rfl ?_
      intro KP RP TP hKP hTP hTP'
      simp only [Sch.fill, nth]
      apply merge2 (Inv := fun g s w' => Below wq.heap.size wq w' ∧ wq.heap.size ≤ g ∧ Blk w' g 24 (rgv q s) ∧ LogAt w' w'.heap.size s (q).log) (K := KP)
      · intro HK
        have hQ : Below wq.heap.size wq wq.drew := (Below.refl _ _).drew
        generalize wq.drew = wc at hQ ⊢
        go_wp2_with (first
          | (apply SeqT.skip; rfl; simp only [Act.put, List.setIfInBounds_toArray, List.set_cons_zero, List.set_cons_succ])
          | (apply SeqT.pure; rfl; (intro w9 hw9; have hw9 := hTP _ hw9; exact exec_load_blk 24 _ rfl _ rfl _ _ (C1.keep hw9) _ Try.underlying24 rfl rg_info); simp only [Act.put, List.setIfInBounds_toArray, List.set_cons_zero, List.set_cons_succ])
          | (apply SeqT.pure; rfl; (intro w9 hw9; have hw9 := hTP _ hw9; ((obtain ⟨q0, q1, q2, q3, q4, q5, q6, q7⟩ := FA _ (below_trans hB3 hw9 hz3))); go_simp; with_reducible rfl); simp only [Act.put, List.setIfInBounds_toArray, List.set_cons_zero, List.set_cons_succ]))
        all_goals first | apply SeqT.two | apply SeqT.one
        all_goals first
          | (refine EffT.is (some 43) rfl ?_
             apply EffT.go
             · rfl
             intro KE hKE
             go_wp2_with fail
             refine (doc_get t x wc HQ.out (HS3.out.2.1.keep hQ) (HX.out.keep (below_trans hB3 hQ hz3)) (by omega)).mono ?_
             rintro e wd ⟨sr, rfl, hR0, hb⟩
             have hQ' := below_trans hQ hb hQ.size
             refine hKE _ _ (hTP' _ hQ') ?_
             clear hKE KE hQ
             try replace hZ := hZ.keep hb
             clear hb
             try clear wc
             obtain ⟨wc, rfl⟩ : ∃ z, z = wd := ⟨_, rfl⟩
             have hR := hR0
             clear hR0
             have hQ := hQ'
             clear hQ'
             go_wp2_with (first
               | (apply SeqT.skip; rfl; simp only [Act.put, List.setIfInBounds_toArray, List.set_cons_zero, List.set_cons_succ])
               | (apply SeqT.pure; rfl; (intro w9 hw9; have hw9 := hTP _ hw9; exact exec_load_blk 24 _ rfl _ rfl _ _ (C1.keep hw9) _ Try.underlying24 rfl rg_info); simp only [Act.put, List.setIfInBounds_toArray, List.set_cons_zero, List.set_cons_succ])
               | (apply SeqT.pure; rfl; (intro w9 hw9; have hw9 := hTP _ hw9; ((obtain ⟨q0, q1, q2, q3, q4, q5, q6, q7⟩ := FA _ (below_trans hB3 hw9 hz3))); go_simp; with_reducible rfl); simp only [Act.put, List.setIfInBounds_toArray, List.set_cons_zero, List.set_cons_succ])))
          | (refine EffT.is (some 8) rfl ?_
             apply EffT.go
             · rfl
             intro KE hKE
             go_wp2_with fail
             refine eff_abs hKE (fun W' => Below wc.heap.size wc W' ∧ Blk W' wc.heap.size 24 (rgv reg0 (none, 0, 0))) ⟨(Below.refl _ _).alloc (Nat.le_refl _) _, Blk.new wc 24 (rgv reg0 (none, 0, 0))⟩ (fun W' h => hTP' _ (below_trans hQ h.1 hQ.size)) ?_
             rintro wd ⟨hb, hZ0⟩
             have hQ' := below_trans hQ hb hQ.size
             have hgz := hQ.size
             generalize wc.heap.size = gz at hZ0 hgz ⊢
             clear hKE KE hQ
             try replace hR := hR.keep hb
             clear hb
             try clear wc
             obtain ⟨wc, rfl⟩ : ∃ z, z = wd := ⟨_, rfl⟩
             have hZ := hZ0
             clear hZ0
             have hQ := hQ'
             clear hQ'
             go_wp2_with (first
               | (apply SeqT.skip; rfl; simp only [Act.put, List.setIfInBounds_toArray, List.set_cons_zero, List.set_cons_succ])
               | (apply SeqT.pure; rfl; (intro w9 hw9; have hw9 := hTP _ hw9; exact exec_load_blk 24 _ rfl _ rfl _ _ (C1.keep hw9) _ Try.underlying24 rfl rg_info); simp only [Act.put, List.setIfInBounds_toArray, List.set_cons_zero, List.set_cons_succ])
               | (apply SeqT.pure; rfl; (intro w9 hw9; have hw9 := hTP _ hw9; ((obtain ⟨q0, q1, q2, q3, q4, q5, q6, q7⟩ := FA _ (below_trans hB3 hw9 hz3))); go_simp; with_reducible rfl); simp only [Act.put, List.setIfInBounds_toArray, List.set_cons_zero, List.set_cons_succ])))
        all_goals first | apply SeqT.two | apply SeqT.one
        all_goals first
          | (refine EffT.is (some 43) rfl ?_
             apply EffT.go
             · rfl
             intro KE hKE
             go_wp2_with fail
             refine (doc_get t x wc HQ.out (HS3.out.2.1.keep hQ) (HX.out.keep (below_trans hB3 hQ hz3)) (by omega)).mono ?_
             rintro e wd ⟨sr, rfl, hR0, hb⟩
             have hQ' := below_trans hQ hb hQ.size
             refine hKE _ _ (hTP' _ hQ') ?_
             clear hKE KE hQ
             try replace hZ := hZ.keep hb
             clear hb
             try clear wc
             obtain ⟨wc, rfl⟩ : ∃ z, z = wd := ⟨_, rfl⟩
             have hR := hR0
             clear hR0
             have hQ := hQ'
             clear hQ'
             go_wp2_with (first
               | (apply SeqT.skip; rfl; simp only [Act.put, List.setIfInBounds_toArray, List.set_cons_zero, List.set_cons_succ])
               | (apply SeqT.pure; rfl; (intro w9 hw9; have hw9 := hTP _ hw9; exact exec_load_blk 24 _ rfl _ rfl _ _ (C1.keep hw9) _ Try.underlying24 rfl rg_info); simp only [Act.put, List.setIfInBounds_toArray, List.set_cons_zero, List.set_cons_succ])
               | (apply SeqT.pure; rfl; (intro w9 hw9; have hw9 := hTP _ hw9; ((obtain ⟨q0, q1, q2, q3, q4, q5, q6, q7⟩ := FA _ (below_trans hB3 hw9 hz3))); go_simp; with_reducible rfl); simp only [Act.put, List.setIfInBounds_toArray, List.set_cons_zero, List.set_cons_succ])))
          | (refine EffT.is (some 8) rfl ?_
             apply EffT.go
             · rfl
             intro KE hKE
             go_wp2_with fail
             refine eff_abs hKE (fun W' => Below wc.heap.size wc W' ∧ Blk W' wc.heap.size 24 (rgv reg0 (none, 0, 0))) ⟨(Below.refl _ _).alloc (Nat.le_refl _) _, Blk.new wc 24 (rgv reg0 (none, 0, 0))⟩ (fun W' h => hTP' _ (below_trans hQ h.1 hQ.size)) ?_
             rintro wd ⟨hb, hZ0⟩
             have hQ' := below_trans hQ hb hQ.size
             have hgz := hQ.size
             generalize wc.heap.size = gz at hZ0 hgz ⊢
             clear hKE KE hQ
             try replace hR := hR.keep hb
             clear hb
             try clear wc
             obtain ⟨wc, rfl⟩ : ∃ z, z = wd := ⟨_, rfl⟩
             have hZ := hZ0
             clear hZ0
             have hQ := hQ'
             clear hQ'
             go_wp2_with (first
               | (apply SeqT.skip; rfl; simp only [Act.put, List.setIfInBounds_toArray, List.set_cons_zero, List.set_cons_succ])
               | (apply SeqT.pure; rfl; (intro w9 hw9; have hw9 := hTP _ hw9; exact exec_load_blk 24 _ rfl _ rfl _ _ (C1.keep hw9) _ Try.underlying24 rfl rg_info); simp only [Act.put, List.setIfInBounds_toArray, List.set_cons_zero, List.set_cons_succ])
               | (apply SeqT.pure; rfl; (intro w9 hw9; have hw9 := hTP _ hw9; ((obtain ⟨q0, q1, q2, q3, q4, q5, q6, q7⟩ := FA _ (below_trans hB3 hw9 hz3))); go_simp; with_reducible rfl); simp only [Act.put, List.setIfInBounds_toArray, List.set_cons_zero, List.set_cons_succ])))
        all_goals first | apply SeqT.two | apply SeqT.one
        all_goals
          refine EffT.is none rfl ?_
          apply EffT.go
          · rfl
          intro KE hKE
          refine wp_store_own 24 _ _ rfl _ (rgv q sr) rfl rfl _ _ hZ rg_info rfl (rgv_one _ _) ?_
          intro wd B5 g5
          have hQ' := hQ.trans (below_grown g5 hgz hQ.size)
          have hR5 := hR.stored hZ (by simp [rgv]) g5
          refine hKE _ _ (hTP' _ hQ') ?_
          clear hKE KE
          go_wp2_with (first
            | (apply SeqT.skip; rfl; simp only [Act.put, List.setIfInBounds_toArray, List.set_cons_zero, List.set_cons_succ])
            | (apply SeqT.pure; rfl; (intro w9 hw9; have hw9 := hTP _ hw9; exact exec_load_blk 24 _ rfl _ rfl _ _ (C1.keep hw9) _ Try.underlying24 rfl rg_info); simp only [Act.put, List.setIfInBounds_toArray, List.set_cons_zero, List.set_cons_succ])
            | (apply SeqT.pure; rfl; (intro w9 hw9; have hw9 := hTP _ hw9; ((obtain ⟨q0, q1, q2, q3, q4, q5, q6, q7⟩ := FA _ (below_trans hB3 hw9 hz3))); go_simp; with_reducible rfl); simp only [Act.put, List.setIfInBounds_toArray, List.set_cons_zero, List.set_cons_succ]))
          apply SeqT.done
          exact HK gz sr wd ⟨hQ', hgz, B5, hR5⟩
      intro g2 s3 w4 ⟨hb4, hge4, B4, R4⟩
      refine hKP _ _ (hTP' _ hb4) ?_
      clear hKP hTP hTP'
      have hB4 := below_trans hB3 hb4 hz3
      have D0 := C0.keep hb4
      have D1 := C1.keep hb4
      have D3 := B3.keep hb4
      have HS4 := Lib.hid (And.intro (HS3.out.1.keep hb4) (And.intro (HS3.out.2.1.keep hb4) (And.intro (HS3.out.2.2.keep hb4) R4)))
      have hz4 := hB4.size
      have lB3 := B3.lt
      have hg4 : g < g2 := by omega
      clear R4 C0 C1 B3 HS3 hB3 hb4 lB3 hge4 hz3
      try clear wq
      cases b with
      | false =>
        go_wp2_with ((with_reducible refine at_list ?_); first | refine wpList_load_blk rfl 24 _ rfl _ rfl _ _ _ (D0) Try.underlying24 rfl rg_info ?_ | refine wpList_load_blk rfl 24 _ rfl _ rfl _ _ _ (D1) Try.underlying24 rfl rg_info ?_)
        refine (samereg_any r r s t _ HS4.out.1 HS4.out.2.1 rfl).mono ?_
        rintro e w5 ⟨rfl, hb5⟩
        have hB5 := below_trans hB4 hb5 hz4
        have E0 := D0.keep hb5
        have E1 := D1.keep hb5
        have HS5 := Lib.hid (And.intro (HS4.out.1.keep hb5) (HS4.out.2.1.keep hb5))
        go_wp2_with fail
        go_roundg (l.length - (j + 1))
        case measure => have hkk := AA.out; omega
        case rel => exact ⟨j + 1, r, s, t, rfl, by omega, by go_num, hB5, E0, E1, HS5.out.1, HS5.out.2⟩
      | true =>
        go_wp2_with fail
        refine wp_region_p ([(0, true), (1, true), (2, false), (3, false)]) (fun w' => Blk w' g 24 (rgv q s2) ∧ Blk w' g2 24 (rgv q s3)) (by kernel_rfl) rfl (by kernel_rfl) (by kernel_rfl) (⟨D3.drew, B4.drew⟩) rfl ?_
        intro KP RP TP hKP hTP hTP'
        simp only [List.append_eq, List.cons_append, List.nil_append, pick, nth]
        go_wp2_with (first
          | (apply SeqP.skip; rfl; simp only [Act.put, List.setIfInBounds_toArray, List.set_cons_zero, List.set_cons_succ])
          | (apply SeqP.pure; rfl; (intro w2 hw; have hw := hTP _ hw; exact exec_load_blk 24 _ rfl _ rfl _ _ (hw.1) _ Try.underlying24 rfl rg_info); simp only [Act.put, List.setIfInBounds_toArray, List.set_cons_zero, List.set_cons_succ])
          | (apply SeqP.pure; rfl; (intro w2 hw; have hw := hTP _ hw; exact exec_load_blk 24 _ rfl _ rfl _ _ (hw.2) _ Try.underlying24 rfl rg_info); simp only [Act.put, List.setIfInBounds_toArray, List.set_cons_zero, List.set_cons_succ])
          | (apply SeqP.pure; rfl; (intro w2 hw; have hw := hTP _ hw; exact exec_load_blk 24 _ rfl _ rfl _ _ (hw.1) _ Try.underlying24 rfl rg_info); simp only [Act.put, List.setIfInBounds_toArray, List.set_cons_zero, List.set_cons_succ])
          | (apply SeqP.pure; rfl; (intro w2 hw; have hw := hTP _ hw; exact exec_load_blk 24 _ rfl _ rfl _ _ (hw.2) _ Try.underlying24 rfl rg_info); simp only [Act.put, List.setIfInBounds_toArray, List.set_cons_zero, List.set_cons_succ])
          | (apply SeqP.pure; rfl; (intro w2 hw; have hw := hTP _ hw; (skip); go_simp; with_reducible rfl); simp only [Act.put, List.setIfInBounds_toArray, List.set_cons_zero, List.set_cons_succ])
          | (apply SeqP.split; rfl; rfl; all_goals (intro hc; simp only [hc])))
        have hd : Below w4.heap.size w4 w4.drew := (Below.refl _ _).drew
        have HS5 := Lib.hid (And.intro (HS4.out.2.2.1.keep hd) (HS4.out.2.2.2.keep hd))
        have F0 := D0.drew
        have F1 := D1.drew
        have F3 := D3.drew
        have F4 := B4.drew
        have hB5 := hB4.drew
        generalize w4.drew = w5 at HS5 F0 F1 F3 F4 hB5 ⊢
        clear D0 D1 D3 B4 HS4 hB4 hd
        have ne : ∀ m k : Nat, m ≠ k → some m ≠ some k := fun m k h e => h (Option.some.inj e)
        have lF1 := F1.lt
        apply SeqP.eff
        · rfl
        intro KE hKE
        refine wp_store_own 24 _ _ rfl _ (rgv q s2) rfl rfl _ _ F0 rg_info rfl (rgv_one _ _) ?_
        intro w6 G0 g6
        have G1 := F1.grown g6 (ne _ _ (by omega))
        have G3 := F3.grown g6 (ne _ _ (by omega))
        have G4 := F4.grown g6 (ne _ _ (by omega))
        have hB6 := hB5.trans (below_grown g6 (Nat.le_refl _) hB5.size)
        have HS6 := Lib.hid (And.intro (HS5.out.1.stored F0 (by simp [rgv]) g6) (HS5.out.2.stored F0 (by simp [rgv]) g6))
        refine hKE _ _ (hTP' _ ⟨G3, G4⟩) ?_
        clear hKE KE F0 F1 F3 F4 HS5 hB5 g6
        apply SeqP.eff
        · rfl
        intro KE hKE
        refine wp_store_own 24 _ _ rfl _ (rgv q s3) rfl rfl _ _ G1 rg_info rfl (rgv_one _ _) ?_
        intro w7 H1 g7
        have H0 := G0.grown g7 (ne _ _ (by omega))
        have H3 := G3.grown g7 (ne _ _ (by omega))
        have H4 := G4.grown g7 (ne _ _ (by omega))
        have hB7 := hB6.trans (below_grown g7 (by omega) hB6.size)
        have HS7 := Lib.hid (And.intro (HS6.out.1.stored G1 (by simp [rgv]) g7) (HS6.out.2.stored G1 (by simp [rgv]) g7))
        refine hKE _ _ (hTP' _ ⟨H3, H4⟩) ?_
        clear hKE KE G0 G1 HS6 hB6 g7
        apply SeqP.nil
        refine hKP _ _ (hTP' _ (⟨H3, H4⟩)) ?_
        clear hKP hTP hTP'
        clear H3 H4 G3 G4
        have hz7 := hB7.size
        go_wp2_with ((with_reducible refine at_list ?_); first | refine wpList_load_blk rfl 24 _ rfl _ rfl _ _ _ (H0) Try.underlying24 rfl rg_info ?_ | refine wpList_load_blk rfl 24 _ rfl _ rfl _ _ _ (H1) Try.underlying24 rfl rg_info ?_)
        refine (samereg_any q q s2 s3 _ HS7.out.1 HS7.out.2 rfl).mono ?_
        rintro e w8 ⟨rfl, hb8⟩
        have hB8 := below_trans hB7 hb8 hz7
        have I0 := H0.keep hb8
        have I1 := H1.keep hb8
        have HS8 := Lib.hid (And.intro (HS7.out.1.keep hb8) (HS7.out.2.keep hb8))
        go_wp2_with fail
        go_roundg (l.length - (j + 1))
        case measure => have hkk := AA.out; omega
        case rel => exact ⟨j + 1, q, s2, s3, rfl, by omega, by go_num, hB8, I0, I1, HS8.out.1, HS8.out.2⟩
    · obtain rfl : j = l.length := by omega
      have hz := hB.size
      go_wp2_with fail
      refine (lives15_any _).mono ?_
      rintro e w2 ⟨rfl, hb⟩
      have hB2 := below_trans hB hb hz
      go_wp2_with fail
      go_ret
      exact ⟨rfl, hB2⟩
end Go.Proofs.Ytbicefilfhcgoaa
