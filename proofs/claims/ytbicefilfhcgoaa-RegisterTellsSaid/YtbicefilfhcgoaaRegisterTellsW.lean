/-
  The walk over the statement RegisterTells.
-/
import Derived.Test.YtbicefilfhcgoaaRegLives
import Derived.Test.YtbicefilfhcgoaaRegGet
set_option linter.unusedSimpArgs false
set_option linter.unusedVariables false
set_option maxRecDepth 100000
namespace Go.Proofs.Ytbicefilfhcgoaa
open Go Go.RowKit Go.Sq Go.Wd Go.Arch

theorem check_get {r : RegS} {m : Bool} (h : mayR r = m) (sl : SlcE) (w : World) (hl : LogAt w w.heap.size sl r.log) :
    Calls Try.prog 18 #[.agg (rgv r sl).toArray] w fun e w' => e = .returned (.bool m) ∧ Below w.heap.size w w' := by
  rw [← h]; exact check15_any r sl w hl
theorem rcheck_get {r : RegS} {m : Bool} (h : mayR r = m) (sl : SlcE) (w : World) (hl : LogAt w w.heap.size sl r.log) :
    Calls Try.prog 19 #[.agg (rgv r sl).toArray] w fun e w' => e = .returned (.bool m) ∧ Below w.heap.size w w' := by
  rw [← h]; exact rcheck15_any r sl w hl

set_option maxHeartbeats 8000000 in
theorem registerTells_walk (r : RegS) (sl : SlcE) (x : RecV) (w : World) (hl : LogAt w w.heap.size sl r.log) (hx : LogAt w w.heap.size x.es x.ents) :
    Calls Try.prog 3 #[.agg (rgv r sl).toArray, .agg (rcv x).toArray] w fun e w' => e = .returned (.bool true) ∧ Below w.heap.size w w' := by
  obtain ⟨As, ns, cs⟩ := sl
  obtain rfl : ns = r.log.length := hl.1
  have hz : Below w.heap.size w ((w.alloc (.cells (rgv r (As, r.log.length, cs)).toArray 24)).alloc (.cells (rcv x).toArray 27)) := ((Below.refl _ _).alloc (Nat.le_refl _) _).alloc (by simp) _
  have B0 : Blk ((w.alloc (.cells (rgv r (As, r.log.length, cs)).toArray 24)).alloc (.cells (rcv x).toArray 27)) w.heap.size 24 (rgv r (As, r.log.length, cs)) := (Blk.new w _ _).alloc _
  have B1 : Blk ((w.alloc (.cells (rgv r (As, r.log.length, cs)).toArray 24)).alloc (.cells (rcv x).toArray 27)) (w.heap.size + 1) 27 (rcv x) := Blk.newAt _ _ _ (by simp)
  go_enter Try.func3, Try.ntmps3
  go_wp2_with ((with_reducible refine at_list ?_); (with_reducible refine cut_at 10 rfl ?_))
  refine Cut.go ?_
  have HL1 := Lib.hid (And.intro (hl.keep hz) (hx.keep hz))
  generalize (w.alloc (.cells (rgv r (As, r.log.length, cs)).toArray 24)).alloc (.cells (rcv x).toArray 27) = w1 at hz B0 B1 HL1 ⊢
  have hz1 := hz.size
  have lB0 := B0.lt
  have lB1 := B1.lt
  have r2 := B0.cell 2
  simp [rgv] at r2
  clear hl hx
  by_cases h200 : 200 < r.log.length
  case pos =>
    have h2 : (200 : Int) < (r.log.length : Int) := by omega
    go_wp2_with ((with_reducible refine at_list ?_); refine wpList_load_blk_g 27 _ rfl rfl _ rfl _ _ _ (B1) Try.underlying27 rfl rc_info ?_)
    refine (lives15_any _).mono ?_
    rintro e w2 ⟨rfl, hb⟩
    have hB2 := below_trans hz hb hz1
    go_wp2_with fail
    go_ret
    exact ⟨rfl, hB2⟩
  have h2 : ¬ (200 : Int) < (r.log.length : Int) := by omega
  go_wp2_with ((with_reducible refine at_list ?_); refine wpList_load_blk_g 27 _ rfl rfl _ rfl _ _ _ (B1) Try.underlying27 rfl rc_info ?_)
  refine (great15_any x _ HL1.out.2).mono ?_
  rintro e w2 ⟨rfl, hb⟩
  have hw1 := below_trans hz hb hz1
  have C0 := B0.keep hb
  have C1 := B1.keep hb
  have HL2 := Lib.hid (And.intro (HL1.out.1.keep hb) (HL1.out.2.keep hb))
  have hz2 := hw1.size
  clear hb hz HL1 B0 B1 r2 lB0 lB1 hz1 h2
  try clear w1
  by_cases hx200 : 200 < x.ents.length
  case pos =>
    have hd : decide (200 < x.ents.length) = true := decide_eq_true hx200
    rw [hd]
    go_wp2_with fail
    refine (lives15_any _).mono ?_
    rintro e w2 ⟨rfl, hb⟩
    have hB2 := below_trans hw1 hb hz2
    go_wp2_with fail
    go_ret
    exact ⟨rfl, hB2⟩
  have hd : decide (200 < x.ents.length) = false := decide_eq_false hx200
  rw [hd]
  clear hd
  have m64 : r.log.length ≤ 200 := by omega
  have HL1 := Lib.hid HL2.out.1
  obtain ⟨w1, rfl⟩ : ∃ z, z = w2 := ⟨_, rfl⟩
  go_wp2_with fail
  refine wp_region_t (.quiet 0 (.quiet 1 (.quiet 2 (.quiet 3 (.quiet 4 (.quiet 5 (.quiet 7 (.quiet 8 (.two 6 10 (.quiet 9 (.one 10 (.one 11 .done))) (.one 6 (.quiet 9 (.one 11 .done)))))))))))) (fun w' => Below w1.heap.size w1 w' ∧ Blk w' w.heap.size 24 (rgv r (As, r.log.length, cs))) (by kernel_rfl) (by kernel_rfl) (by kernel_rfl) (by kernel_rfl) (⟨(Below.refl _ _).drew, C0.drew⟩) rfl ?_
  intro KP RP TP hKP hTP hTP'
  simp only [Sch.fill, nth]
  apply merge2 (Inv := fun g s w' => Below w1.heap.size w1 w' ∧ w1.heap.size ≤ g ∧ Blk w' g 24 (rgv r s) ∧ LogAt w' w'.heap.size s r.log) (K := KP)
  · intro HK
    have hQ : Below w1.heap.size w1 w1.drew := (Below.refl _ _).drew
    generalize w1.drew = wc at hQ ⊢
    go_wp2_with (first
      | (apply SeqT.skip; rfl; simp only [Act.put, List.setIfInBounds_toArray, List.set_cons_zero, List.set_cons_succ])
      | (apply SeqT.pure; rfl; (intro w9 hw9; have hw9 := hTP _ hw9; (have z0 := hw9.2.cell 0; have z1 := hw9.2.cell 1; have z2 := hw9.2.cell 2; have z3 := hw9.2.cell 3; simp [rgv] at z0 z1 z2 z3); go_simp; with_reducible rfl); simp only [Act.put, List.setIfInBounds_toArray, List.set_cons_zero, List.set_cons_succ]))
    apply SeqT.two
    · apply EffT.go
      · rfl
      intro KE hKE
      obtain ⟨v, w4, hrun, hRv, hb⟩ := copy_nil r.log As cs wc (HL1.out.keep hQ).2.2.2 (by omega)
      refine oper_app (by rfl) (by rfl) (by rfl) hrun ?_
      obtain ⟨s, rfl, hs⟩ := hRv.log
      have hw4 := below_trans hQ hb hQ.size
      refine hKE _ _ (hTP' _ ⟨hw4, C0.keep hw4⟩) ?_
      clear hKE KE hrun hRv
      go_wp2_with (first
        | (apply SeqT.skip; rfl; simp only [Act.put, List.setIfInBounds_toArray, List.set_cons_zero, List.set_cons_succ])
        | (apply SeqT.pure; rfl; (intro w9 hw9; have hw9 := hTP _ hw9; (have z0 := hw9.2.cell 0; have z1 := hw9.2.cell 1; have z2 := hw9.2.cell 2; have z3 := hw9.2.cell 3; simp [rgv] at z0 z1 z2 z3); go_simp; with_reducible rfl); simp only [Act.put, List.setIfInBounds_toArray, List.set_cons_zero, List.set_cons_succ]))
      apply SeqT.one
      apply EffT.go
      · rfl
      intro KE hKE
      go_wp2_with fail
      refine eff_abs hKE (fun W' => Below w4.heap.size w4 W' ∧ Blk W' w4.heap.size 24 (rgv reg0 (none, 0, 0))) ⟨(Below.refl _ _).alloc (Nat.le_refl _) _, Blk.new w4 _ _⟩ (fun W' h => hTP' _ ⟨below_trans hw4 h.1 hw4.size, C0.keep (below_trans hw4 h.1 hw4.size)⟩) ?_
      rintro w5 ⟨hb5, Z5⟩
      have hw5 := below_trans hw4 hb5 hw4.size
      have hs5 := hs.keep hb5
      have hgz := hw4.size
      clear hKE KE hs hb5
      generalize w4.heap.size = gz at Z5 hgz ⊢
      apply SeqT.one
      apply EffT.go
      · rfl
      intro KE hKE
      refine wp_store_own 24 _ _ rfl _ (rgv r s) rfl rfl _ _ Z5 rg_info rfl (rgv_one _ _) ?_
      intro w6 B6 g6
      have hw6 := hw5.trans (below_grown g6 hgz hw5.size)
      have hs6 := hs5.stored Z5 (by simp [rgv]) g6
      refine hKE _ _ (hTP' _ ⟨hw6, C0.keep hw6⟩) ?_
      clear hKE KE
      go_wp2_with (first
        | (apply SeqT.skip; rfl; simp only [Act.put, List.setIfInBounds_toArray, List.set_cons_zero, List.set_cons_succ])
        | (apply SeqT.pure; rfl; (intro w9 hw9; have hw9 := hTP _ hw9; (have z0 := hw9.2.cell 0; have z1 := hw9.2.cell 1; have z2 := hw9.2.cell 2; have z3 := hw9.2.cell 3; simp [rgv] at z0 z1 z2 z3); go_simp; with_reducible rfl); simp only [Act.put, List.setIfInBounds_toArray, List.set_cons_zero, List.set_cons_succ]))
      apply SeqT.done
      exact HK gz s _ ⟨hw6, hgz, B6, hs6⟩
    · apply EffT.go
      · rfl
      intro KE hKE
      go_wp2_with fail
      refine eff_abs hKE (fun W' => Below wc.heap.size wc W' ∧ Blk W' wc.heap.size 24 (rgv reg0 (none, 0, 0))) ⟨(Below.refl _ _).alloc (Nat.le_refl _) _, Blk.new wc _ _⟩ (fun W' h => hTP' _ ⟨below_trans hQ h.1 hQ.size, C0.keep (below_trans hQ h.1 hQ.size)⟩) ?_
      rintro w5 ⟨hb5, Z5⟩
      have hw5 := below_trans hQ hb5 hQ.size
      have hgz := hQ.size
      clear hKE KE hb5
      generalize wc.heap.size = gz at Z5 hgz ⊢
      go_wp2_with (first
        | (apply SeqT.skip; rfl; simp only [Act.put, List.setIfInBounds_toArray, List.set_cons_zero, List.set_cons_succ])
        | (apply SeqT.pure; rfl; (intro w9 hw9; have hw9 := hTP _ hw9; (have z0 := hw9.2.cell 0; have z1 := hw9.2.cell 1; have z2 := hw9.2.cell 2; have z3 := hw9.2.cell 3; simp [rgv] at z0 z1 z2 z3); go_simp; with_reducible rfl); simp only [Act.put, List.setIfInBounds_toArray, List.set_cons_zero, List.set_cons_succ]))
      apply SeqT.one
      apply EffT.go
      · rfl
      intro KE hKE
      obtain ⟨v, w4, hrun, hRv, hb⟩ := copy_nil r.log As cs w5 (HL1.out.keep hw5).2.2.2 (by omega)
      refine oper_app (by rfl) (by rfl) (by rfl) hrun ?_
      obtain ⟨s, rfl, hs⟩ := hRv.log
      have hw4 := below_trans hw5 hb hw5.size
      have Z4 := Z5.keep hb
      refine hKE _ _ (hTP' _ ⟨hw4, C0.keep hw4⟩) ?_
      clear hKE KE hrun hRv
      go_wp2_with (first
        | (apply SeqT.skip; rfl; simp only [Act.put, List.setIfInBounds_toArray, List.set_cons_zero, List.set_cons_succ])
        | (apply SeqT.pure; rfl; (intro w9 hw9; have hw9 := hTP _ hw9; (have z0 := hw9.2.cell 0; have z1 := hw9.2.cell 1; have z2 := hw9.2.cell 2; have z3 := hw9.2.cell 3; simp [rgv] at z0 z1 z2 z3); go_simp; with_reducible rfl); simp only [Act.put, List.setIfInBounds_toArray, List.set_cons_zero, List.set_cons_succ]))
      apply SeqT.one
      apply EffT.go
      · rfl
      intro KE hKE
      refine wp_store_own 24 _ _ rfl _ (rgv r s) rfl rfl _ _ Z4 rg_info rfl (rgv_one _ _) ?_
      intro w6 B6 g6
      have hw6 := hw4.trans (below_grown g6 hgz hw4.size)
      have hs6 := hs.stored Z4 (by simp [rgv]) g6
      refine hKE _ _ (hTP' _ ⟨hw6, C0.keep hw6⟩) ?_
      clear hKE KE
      go_wp2_with (first
        | (apply SeqT.skip; rfl; simp only [Act.put, List.setIfInBounds_toArray, List.set_cons_zero, List.set_cons_succ])
        | (apply SeqT.pure; rfl; (intro w9 hw9; have hw9 := hTP _ hw9; (have z0 := hw9.2.cell 0; have z1 := hw9.2.cell 1; have z2 := hw9.2.cell 2; have z3 := hw9.2.cell 3; simp [rgv] at z0 z1 z2 z3); go_simp; with_reducible rfl); simp only [Act.put, List.setIfInBounds_toArray, List.set_cons_zero, List.set_cons_succ]))
      apply SeqT.done
      exact HK gz s _ ⟨hw6, hgz, B6, hs6⟩
  intro g s w3 ⟨hb, hge, G3, hs⟩
  refine hKP _ _ (hTP' _ ⟨hb, C0.keep hb⟩) ?_
  clear hKP hTP hTP'
  have hw3 := below_trans hw1 hb hz2
  have E0 := C0.keep hb
  have E1 := C1.keep hb
  have HL3 := Lib.hid (And.intro (HL2.out.1.keep hb) (And.intro (HL2.out.2.keep hb) hs))
  have hz3 := hw3.size
  clear hb C0 C1 HL1 HL2 hw1 hge hs
  try clear w1
  obtain ⟨⟨q, b⟩, hqb⟩ : ∃ z, regR (applyR r x.s) = z := ⟨_, rfl⟩
  have HQ := Lib.hid hqb
  clear hqb
  go_wp2_with ((with_reducible refine at_list ?_); first | refine wpList_load_blk rfl 24 _ rfl _ rfl _ _ _ (G3) Try.underlying24 rfl rg_info ?_ | refine wpList_load_blk rfl 27 _ rfl _ rfl _ _ _ (E1) Try.underlying27 rfl rc_info ?_)
  refine (apply_get s x w3 HQ.out HL3.out.2.2 HL3.out.2.1 (by omega)).mono ?_
  rintro e w4 ⟨sa, rfl, hA, hb⟩
  have hw4 := below_trans hw3 hb hz3
  have F0 := E0.keep hb
  have F1 := E1.keep hb
  have F3 := G3.keep hb
  have HL4 := Lib.hid (And.intro (HL3.out.1.keep hb) (And.intro (HL3.out.2.1.keep hb) (And.intro (HL3.out.2.2.keep hb) hA)))
  have hz4 := hw4.size
  clear hb E0 E1 G3 HL3 hw3 hz3 hA
  try clear w3
  go_wp2_with ((with_reducible refine at_list ?_); first | (refine wpList_store_own rfl 24 _ _ rfl _ (rgv q sa) rfl rfl _ _ (Blk.new w4 24 (rgv reg0 (none, 0, 0))) rg_info rfl (rgv_one _ _) ?_; intro w5 D5 g5) | (with_reducible refine cut_at 36 rfl ?_))
  refine Cut.go ?_
  have hb5 := below_new g5
  have hw5 := below_trans hw4 hb5 hz4
  have G0 := F0.keep hb5
  have G1 := F1.keep hb5
  have G3 := F3.keep hb5
  have HL5 := Lib.hid (And.intro (HL4.out.1.keep hb5) (And.intro (HL4.out.2.1.keep hb5) (And.intro (HL4.out.2.2.1.keep hb5) (HL4.out.2.2.2.keep hb5))))
  have hz5 := hw5.size
  clear hb5 g5 F0 F1 F3 HL4 hw4 hz4
  generalize w4.heap.size = ga at D5 ⊢
  go_wp2_with ((with_reducible refine at_list ?_); first | refine wpList_load_blk rfl 24 _ rfl _ rfl _ _ _ (G0) Try.underlying24 rfl rg_info ?_ | refine wpList_load_blk rfl 27 _ rfl _ rfl _ _ _ (G1) Try.underlying27 rfl rc_info ?_)
  refine (doc_get (As, r.log.length, cs) x w5 HQ.out HL5.out.1 HL5.out.2.1 (by omega)).mono ?_
  rintro e w6 ⟨sb, rfl, hA, hb⟩
  have hw6 := below_trans hw5 hb hz5
  have F0 := G0.keep hb
  have F1 := G1.keep hb
  have F3 := G3.keep hb
  have F5 := D5.keep hb
  have HL6 := Lib.hid (And.intro (HL5.out.1.keep hb) (And.intro (HL5.out.2.1.keep hb) (And.intro (HL5.out.2.2.1.keep hb) (And.intro (HL5.out.2.2.2.keep hb) hA))))
  have hz6 := hw6.size
  clear hb G0 G1 G3 D5 HL5 hw5 hz5 hA
  try clear w5
  go_wp2_with ((with_reducible refine at_list ?_); first | (refine wpList_store_own rfl 24 _ _ rfl _ (rgv q sb) rfl rfl _ _ (Blk.new w6 24 (rgv reg0 (none, 0, 0))) rg_info rfl (rgv_one _ _) ?_; intro w7 D7 g7))
  have hb7 := below_new g7
  have hw7 := below_trans hw6 hb7 hz6
  have HB := Lib.hid (And.intro (F0.keep hb7) (And.intro (F1.keep hb7) (And.intro (F3.keep hb7) (And.intro (F5.keep hb7) D7))))
  have HL7 := Lib.hid (And.intro (HL6.out.1.keep hb7) (And.intro (HL6.out.2.1.keep hb7) (And.intro (HL6.out.2.2.1.keep hb7) (And.intro (HL6.out.2.2.2.1.keep hb7) (HL6.out.2.2.2.2.keep hb7)))))
  have hz7 := hw7.size
  clear hb7 g7 F0 F1 F3 F5 HL6 hw6 hz6 D7
  generalize w6.heap.size = gb at HB ⊢
  obtain ⟨m, hm⟩ : ∃ m, mayR r = m := ⟨_, rfl⟩
  have HMR := Lib.hid hm
  clear hm
  refine wp_region_p ([(0, true), (2, true), (1, false), (3, false), (4, true), (5, true), (6, true), (7, true), (8, true), (9, true), (10, true), (11, true), (12, true), (14, true), (13, false), (15, true), (16, true), (17, true), (18, true), (19, true), (20, false), (21, true), (22, true), (23, true), (24, true), (25, false), (26, true), (27, true), (28, false), (29, true), (30, true)]) (fun w' => Below w7.heap.size w7 w') (by kernel_rfl) rfl (by kernel_rfl) (by kernel_rfl) ((Below.refl _ _).drew) rfl ?_
  intro KP RP TP hKP hTP hTP'
  simp only [List.append_eq, List.cons_append, List.nil_append, pick, nth]
  go_wp2_with (first
    | (apply SeqP.skip; rfl; simp only [Act.put, List.setIfInBounds_toArray, List.set_cons_zero, List.set_cons_succ])
    | (apply SeqP.pure; rfl; (intro w2 hw; have hw := hTP _ hw; exact exec_load_blk 24 _ rfl _ rfl _ _ (HB.out.1.keep hw) _ Try.underlying24 rfl rg_info); simp only [Act.put, List.setIfInBounds_toArray, List.set_cons_zero, List.set_cons_succ])
    | (apply SeqP.pure; rfl; (intro w2 hw; have hw := hTP _ hw; exact exec_load_blk 24 _ rfl _ rfl _ _ (HB.out.2.2.1.keep hw) _ Try.underlying24 rfl rg_info); simp only [Act.put, List.setIfInBounds_toArray, List.set_cons_zero, List.set_cons_succ])
    | (apply SeqP.pure; rfl; (intro w2 hw; have hw := hTP _ hw; exact exec_load_blk 24 _ rfl _ rfl _ _ (HB.out.2.2.2.1.keep hw) _ Try.underlying24 rfl rg_info); simp only [Act.put, List.setIfInBounds_toArray, List.set_cons_zero, List.set_cons_succ])
    | (apply SeqP.pure; rfl; (intro w2 hw; have hw := hTP _ hw; exact exec_load_blk 24 _ rfl _ rfl _ _ (HB.out.2.2.2.2.keep hw) _ Try.underlying24 rfl rg_info); simp only [Act.put, List.setIfInBounds_toArray, List.set_cons_zero, List.set_cons_succ])
    | (apply SeqP.pure; rfl; (intro w2 hw; have hw := hTP _ hw; exact exec_load_blk 27 _ rfl _ rfl _ _ (HB.out.2.1.keep hw) _ Try.underlying27 rfl rc_info); simp only [Act.put, List.setIfInBounds_toArray, List.set_cons_zero, List.set_cons_succ])
    | (apply SeqP.pure; rfl; (intro w2 hw; go_simp; with_reducible rfl); simp only [Act.put, List.setIfInBounds_toArray, List.set_cons_zero, List.set_cons_succ])
    | (apply SeqP.split; rfl; rfl; all_goals (intro hc; simp only [hc])))
  have hQ : Below w7.heap.size w7 w7.drew := (Below.refl _ _).drew
  apply SeqP.eff
  · rfl
  intro KE hKE
  go_wp2_with fail
  refine (check_get HMR.out s _ (HL7.out.2.2.1.keep hQ)).mono ?_
  rintro e w8 ⟨rfl, hb⟩
  have hQ' := below_trans hQ hb hQ.size
  refine hKE _ _ (hTP' _ hQ') ?_
  clear hKE KE hb hQ
  have hQ := hQ'
  clear hQ'
  go_wp2_with (first
    | (apply SeqP.skip; rfl; simp only [Act.put, List.setIfInBounds_toArray, List.set_cons_zero, List.set_cons_succ])
    | (apply SeqP.pure; rfl; (intro w2 hw; have hw := hTP _ hw; exact exec_load_blk 24 _ rfl _ rfl _ _ (HB.out.1.keep hw) _ Try.underlying24 rfl rg_info); simp only [Act.put, List.setIfInBounds_toArray, List.set_cons_zero, List.set_cons_succ])
    | (apply SeqP.pure; rfl; (intro w2 hw; have hw := hTP _ hw; exact exec_load_blk 24 _ rfl _ rfl _ _ (HB.out.2.2.1.keep hw) _ Try.underlying24 rfl rg_info); simp only [Act.put, List.setIfInBounds_toArray, List.set_cons_zero, List.set_cons_succ])
    | (apply SeqP.pure; rfl; (intro w2 hw; have hw := hTP _ hw; exact exec_load_blk 24 _ rfl _ rfl _ _ (HB.out.2.2.2.1.keep hw) _ Try.underlying24 rfl rg_info); simp only [Act.put, List.setIfInBounds_toArray, List.set_cons_zero, List.set_cons_succ])
    | (apply SeqP.pure; rfl; (intro w2 hw; have hw := hTP _ hw; exact exec_load_blk 24 _ rfl _ rfl _ _ (HB.out.2.2.2.2.keep hw) _ Try.underlying24 rfl rg_info); simp only [Act.put, List.setIfInBounds_toArray, List.set_cons_zero, List.set_cons_succ])
    | (apply SeqP.pure; rfl; (intro w2 hw; have hw := hTP _ hw; exact exec_load_blk 27 _ rfl _ rfl _ _ (HB.out.2.1.keep hw) _ Try.underlying27 rfl rc_info); simp only [Act.put, List.setIfInBounds_toArray, List.set_cons_zero, List.set_cons_succ])
    | (apply SeqP.pure; rfl; (intro w2 hw; go_simp; with_reducible rfl); simp only [Act.put, List.setIfInBounds_toArray, List.set_cons_zero, List.set_cons_succ])
    | (apply SeqP.split; rfl; rfl; all_goals (intro hc; simp only [hc])))
  apply SeqP.eff
  · rfl
  intro KE hKE
  go_wp2_with fail
  refine (rcheck_get HMR.out (As, r.log.length, cs) _ (HL7.out.1.keep hQ)).mono ?_
  rintro e w9 ⟨rfl, hb⟩
  have hQ' := below_trans hQ hb hQ.size
  refine hKE _ _ (hTP' _ hQ') ?_
  clear hKE KE hb hQ
  have hQ := hQ'
  clear hQ'
  go_wp2_with (first
    | (apply SeqP.skip; rfl; simp only [Act.put, List.setIfInBounds_toArray, List.set_cons_zero, List.set_cons_succ])
    | (apply SeqP.pure; rfl; (intro w2 hw; have hw := hTP _ hw; exact exec_load_blk 24 _ rfl _ rfl _ _ (HB.out.1.keep hw) _ Try.underlying24 rfl rg_info); simp only [Act.put, List.setIfInBounds_toArray, List.set_cons_zero, List.set_cons_succ])
    | (apply SeqP.pure; rfl; (intro w2 hw; have hw := hTP _ hw; exact exec_load_blk 24 _ rfl _ rfl _ _ (HB.out.2.2.1.keep hw) _ Try.underlying24 rfl rg_info); simp only [Act.put, List.setIfInBounds_toArray, List.set_cons_zero, List.set_cons_succ])
    | (apply SeqP.pure; rfl; (intro w2 hw; have hw := hTP _ hw; exact exec_load_blk 24 _ rfl _ rfl _ _ (HB.out.2.2.2.1.keep hw) _ Try.underlying24 rfl rg_info); simp only [Act.put, List.setIfInBounds_toArray, List.set_cons_zero, List.set_cons_succ])
    | (apply SeqP.pure; rfl; (intro w2 hw; have hw := hTP _ hw; exact exec_load_blk 24 _ rfl _ rfl _ _ (HB.out.2.2.2.2.keep hw) _ Try.underlying24 rfl rg_info); simp only [Act.put, List.setIfInBounds_toArray, List.set_cons_zero, List.set_cons_succ])
    | (apply SeqP.pure; rfl; (intro w2 hw; have hw := hTP _ hw; exact exec_load_blk 27 _ rfl _ rfl _ _ (HB.out.2.1.keep hw) _ Try.underlying27 rfl rc_info); simp only [Act.put, List.setIfInBounds_toArray, List.set_cons_zero, List.set_cons_succ])
    | (apply SeqP.pure; rfl; (intro w2 hw; go_simp; with_reducible rfl); simp only [Act.put, List.setIfInBounds_toArray, List.set_cons_zero, List.set_cons_succ])
    | (apply SeqP.split; rfl; rfl; all_goals (intro hc; simp only [hc])))
  apply SeqP.eff
  · rfl
  intro KE hKE
  go_wp2_with fail
  refine (may_get s x _ HQ.out (HL7.out.2.2.1.keep hQ) (HL7.out.2.1.keep hQ) (by omega)).mono ?_
  rintro e w10 ⟨rfl, hb⟩
  have hQ' := below_trans hQ hb hQ.size
  refine hKE _ _ (hTP' _ hQ') ?_
  clear hKE KE hb hQ
  have hQ := hQ'
  clear hQ'
  go_wp2_with (first
    | (apply SeqP.skip; rfl; simp only [Act.put, List.setIfInBounds_toArray, List.set_cons_zero, List.set_cons_succ])
    | (apply SeqP.pure; rfl; (intro w2 hw; have hw := hTP _ hw; exact exec_load_blk 24 _ rfl _ rfl _ _ (HB.out.1.keep hw) _ Try.underlying24 rfl rg_info); simp only [Act.put, List.setIfInBounds_toArray, List.set_cons_zero, List.set_cons_succ])
    | (apply SeqP.pure; rfl; (intro w2 hw; have hw := hTP _ hw; exact exec_load_blk 24 _ rfl _ rfl _ _ (HB.out.2.2.1.keep hw) _ Try.underlying24 rfl rg_info); simp only [Act.put, List.setIfInBounds_toArray, List.set_cons_zero, List.set_cons_succ])
    | (apply SeqP.pure; rfl; (intro w2 hw; have hw := hTP _ hw; exact exec_load_blk 24 _ rfl _ rfl _ _ (HB.out.2.2.2.1.keep hw) _ Try.underlying24 rfl rg_info); simp only [Act.put, List.setIfInBounds_toArray, List.set_cons_zero, List.set_cons_succ])
    | (apply SeqP.pure; rfl; (intro w2 hw; have hw := hTP _ hw; exact exec_load_blk 24 _ rfl _ rfl _ _ (HB.out.2.2.2.2.keep hw) _ Try.underlying24 rfl rg_info); simp only [Act.put, List.setIfInBounds_toArray, List.set_cons_zero, List.set_cons_succ])
    | (apply SeqP.pure; rfl; (intro w2 hw; have hw := hTP _ hw; exact exec_load_blk 27 _ rfl _ rfl _ _ (HB.out.2.1.keep hw) _ Try.underlying27 rfl rc_info); simp only [Act.put, List.setIfInBounds_toArray, List.set_cons_zero, List.set_cons_succ])
    | (apply SeqP.pure; rfl; (intro w2 hw; go_simp; with_reducible rfl); simp only [Act.put, List.setIfInBounds_toArray, List.set_cons_zero, List.set_cons_succ])
    | (apply SeqP.split; rfl; rfl; all_goals (intro hc; simp only [hc])))
  apply SeqP.eff
  · rfl
  intro KE hKE
  go_wp2_with fail
  refine (samereg_any q q sa sb _ (HL7.out.2.2.2.1.keep hQ) (HL7.out.2.2.2.2.keep hQ) rfl).mono ?_
  rintro e w11 ⟨rfl, hb⟩
  have hQ' := below_trans hQ hb hQ.size
  refine hKE _ _ (hTP' _ hQ') ?_
  clear hKE KE hb hQ
  have hQ := hQ'
  clear hQ'
  go_wp2_with (first
    | (apply SeqP.skip; rfl; simp only [Act.put, List.setIfInBounds_toArray, List.set_cons_zero, List.set_cons_succ])
    | (apply SeqP.pure; rfl; (intro w2 hw; have hw := hTP _ hw; exact exec_load_blk 24 _ rfl _ rfl _ _ (HB.out.1.keep hw) _ Try.underlying24 rfl rg_info); simp only [Act.put, List.setIfInBounds_toArray, List.set_cons_zero, List.set_cons_succ])
    | (apply SeqP.pure; rfl; (intro w2 hw; have hw := hTP _ hw; exact exec_load_blk 24 _ rfl _ rfl _ _ (HB.out.2.2.1.keep hw) _ Try.underlying24 rfl rg_info); simp only [Act.put, List.setIfInBounds_toArray, List.set_cons_zero, List.set_cons_succ])
    | (apply SeqP.pure; rfl; (intro w2 hw; have hw := hTP _ hw; exact exec_load_blk 24 _ rfl _ rfl _ _ (HB.out.2.2.2.1.keep hw) _ Try.underlying24 rfl rg_info); simp only [Act.put, List.setIfInBounds_toArray, List.set_cons_zero, List.set_cons_succ])
    | (apply SeqP.pure; rfl; (intro w2 hw; have hw := hTP _ hw; exact exec_load_blk 24 _ rfl _ rfl _ _ (HB.out.2.2.2.2.keep hw) _ Try.underlying24 rfl rg_info); simp only [Act.put, List.setIfInBounds_toArray, List.set_cons_zero, List.set_cons_succ])
    | (apply SeqP.pure; rfl; (intro w2 hw; have hw := hTP _ hw; exact exec_load_blk 27 _ rfl _ rfl _ _ (HB.out.2.1.keep hw) _ Try.underlying27 rfl rc_info); simp only [Act.put, List.setIfInBounds_toArray, List.set_cons_zero, List.set_cons_succ])
    | (apply SeqP.pure; rfl; (intro w2 hw; go_simp; with_reducible rfl); simp only [Act.put, List.setIfInBounds_toArray, List.set_cons_zero, List.set_cons_succ])
    | (apply SeqP.split; rfl; rfl; all_goals (intro hc; simp only [hc])))
  apply SeqP.eff
  · rfl
  intro KE hKE
  go_wp2_with fail
  refine (samereg_any r r s (As, r.log.length, cs) _ (HL7.out.2.2.1.keep hQ) (HL7.out.1.keep hQ) rfl).mono ?_
  rintro e w12 ⟨rfl, hb⟩
  have hQ' := below_trans hQ hb hQ.size
  refine hKE _ _ (hTP' _ hQ') ?_
  clear hKE KE hb hQ
  have hQ := hQ'
  clear hQ'
  go_wp2_with (first
    | (apply SeqP.skip; rfl; simp only [Act.put, List.setIfInBounds_toArray, List.set_cons_zero, List.set_cons_succ])
    | (apply SeqP.pure; rfl; (intro w2 hw; have hw := hTP _ hw; exact exec_load_blk 24 _ rfl _ rfl _ _ (HB.out.1.keep hw) _ Try.underlying24 rfl rg_info); simp only [Act.put, List.setIfInBounds_toArray, List.set_cons_zero, List.set_cons_succ])
    | (apply SeqP.pure; rfl; (intro w2 hw; have hw := hTP _ hw; exact exec_load_blk 24 _ rfl _ rfl _ _ (HB.out.2.2.1.keep hw) _ Try.underlying24 rfl rg_info); simp only [Act.put, List.setIfInBounds_toArray, List.set_cons_zero, List.set_cons_succ])
    | (apply SeqP.pure; rfl; (intro w2 hw; have hw := hTP _ hw; exact exec_load_blk 24 _ rfl _ rfl _ _ (HB.out.2.2.2.1.keep hw) _ Try.underlying24 rfl rg_info); simp only [Act.put, List.setIfInBounds_toArray, List.set_cons_zero, List.set_cons_succ])
    | (apply SeqP.pure; rfl; (intro w2 hw; have hw := hTP _ hw; exact exec_load_blk 24 _ rfl _ rfl _ _ (HB.out.2.2.2.2.keep hw) _ Try.underlying24 rfl rg_info); simp only [Act.put, List.setIfInBounds_toArray, List.set_cons_zero, List.set_cons_succ])
    | (apply SeqP.pure; rfl; (intro w2 hw; have hw := hTP _ hw; exact exec_load_blk 27 _ rfl _ rfl _ _ (HB.out.2.1.keep hw) _ Try.underlying27 rfl rc_info); simp only [Act.put, List.setIfInBounds_toArray, List.set_cons_zero, List.set_cons_succ])
    | (apply SeqP.pure; rfl; (intro w2 hw; go_simp; with_reducible rfl); simp only [Act.put, List.setIfInBounds_toArray, List.set_cons_zero, List.set_cons_succ])
    | (apply SeqP.split; rfl; rfl; all_goals (intro hc; simp only [hc])))
  apply SeqP.eff
  · rfl
  intro KE hKE
  go_wp2_with fail
  refine (lives15_any _).mono ?_
  rintro e w13 ⟨rfl, hb⟩
  have hQ' := below_trans hQ hb hQ.size
  refine hKE _ _ (hTP' _ hQ') ?_
  clear hKE KE hb hQ
  have hQ := hQ'
  clear hQ'
  go_wp2_with (first
    | (apply SeqP.skip; rfl; simp only [Act.put, List.setIfInBounds_toArray, List.set_cons_zero, List.set_cons_succ])
    | (apply SeqP.pure; rfl; (intro w2 hw; have hw := hTP _ hw; exact exec_load_blk 24 _ rfl _ rfl _ _ (HB.out.1.keep hw) _ Try.underlying24 rfl rg_info); simp only [Act.put, List.setIfInBounds_toArray, List.set_cons_zero, List.set_cons_succ])
    | (apply SeqP.pure; rfl; (intro w2 hw; have hw := hTP _ hw; exact exec_load_blk 24 _ rfl _ rfl _ _ (HB.out.2.2.1.keep hw) _ Try.underlying24 rfl rg_info); simp only [Act.put, List.setIfInBounds_toArray, List.set_cons_zero, List.set_cons_succ])
    | (apply SeqP.pure; rfl; (intro w2 hw; have hw := hTP _ hw; exact exec_load_blk 24 _ rfl _ rfl _ _ (HB.out.2.2.2.1.keep hw) _ Try.underlying24 rfl rg_info); simp only [Act.put, List.setIfInBounds_toArray, List.set_cons_zero, List.set_cons_succ])
    | (apply SeqP.pure; rfl; (intro w2 hw; have hw := hTP _ hw; exact exec_load_blk 24 _ rfl _ rfl _ _ (HB.out.2.2.2.2.keep hw) _ Try.underlying24 rfl rg_info); simp only [Act.put, List.setIfInBounds_toArray, List.set_cons_zero, List.set_cons_succ])
    | (apply SeqP.pure; rfl; (intro w2 hw; have hw := hTP _ hw; exact exec_load_blk 27 _ rfl _ rfl _ _ (HB.out.2.1.keep hw) _ Try.underlying27 rfl rc_info); simp only [Act.put, List.setIfInBounds_toArray, List.set_cons_zero, List.set_cons_succ])
    | (apply SeqP.pure; rfl; (intro w2 hw; go_simp; with_reducible rfl); simp only [Act.put, List.setIfInBounds_toArray, List.set_cons_zero, List.set_cons_succ])
    | (apply SeqP.split; rfl; rfl; all_goals (intro hc; simp only [hc])))
  apply SeqP.nil
  refine hKP _ _ (hTP' _ (hQ)) ?_
  clear hKP hTP hTP'
  have hw8 := below_trans hw7 hQ hz7
  go_wp2_with fail
  go_ret
  exact ⟨rfl, hw8⟩
end Go.Proofs.Ytbicefilfhcgoaa
