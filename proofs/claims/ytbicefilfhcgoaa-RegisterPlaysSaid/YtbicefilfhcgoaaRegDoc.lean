/-
  The walk over the document's 'Apply'.
-/
import Derived.Test.YtbicefilfhcgoaaRegDoc2
import Derived.Test.YtbicefilfhcgoaaRegRef
set_option linter.unusedSimpArgs false
set_option linter.unusedVariables false
set_option maxRecDepth 100000
namespace Go.Proofs.Ytbicefilfhcgoaa
open Go Go.RowKit Go.Sq Go.Wd Go.Arch

set_option maxHeartbeats 4000000 in
theorem doc_off (r : RegS) (sl : SlcE) (x : RecV) (w : World) (hm : mayR r = false) (hl : LogAt w w.heap.size sl r.log) :
    Calls Try.prog 17 #[.agg (rgv r sl).toArray, .agg (rcv x).toArray] w (DocP r x.s w) := by
  have HM := Lib.hid (apply_bad (x := x.s) hm)
  have hz : Below w.heap.size w (((w.alloc (.cells (rgv r sl).toArray 24)).alloc (.cells (rcv x).toArray 27)).alloc (.cells (rgv reg0 (none, 0, 0)).toArray 24)) := (((Below.refl _ _).alloc (Nat.le_refl _) _).alloc (by simp) _).alloc (by simp; omega) _
  have BZ : Blk (((w.alloc (.cells (rgv r sl).toArray 24)).alloc (.cells (rcv x).toArray 27)).alloc (.cells (rgv reg0 (none, 0, 0)).toArray 24)) (w.heap.size + 1 + 1) 24 (rgv reg0 (none, 0, 0)) := Blk.newAt _ _ _ (by simp)
  have B0 : Blk (((w.alloc (.cells (rgv r sl).toArray 24)).alloc (.cells (rcv x).toArray 27)).alloc (.cells (rgv reg0 (none, 0, 0)).toArray 24)) w.heap.size 24 (rgv r sl) := ((Blk.new w _ _).alloc _).alloc _
  have hc := rcheck15_any r sl _ (hl.keep hz)
  rw [hm] at hc
  have HH := Lib.hid (And.intro hz (And.intro BZ (And.intro B0 hc)))
  clear hz BZ B0 hc hl hm
  go_enter Try.func17, Try.ntmps17
  go_wp2_with ((with_reducible refine at_list ?_); refine wpList_load_blk rfl 24 _ rfl _ rfl _ _ _ (HH.out.2.2.1) Try.underlying24 rfl rg_info ?_)
  refine HH.out.2.2.2.mono ?_
  rintro e w1 ⟨rfl, hb⟩
  have hw1 := below_trans HH.out.1 hb HH.out.1.size
  have C2 := HH.out.2.1.keep hb
  clear HH hb
  go_wp2_with ((with_reducible refine at_list ?_); (refine wpList_store_own rfl 24 _ _ rfl _ (rgv reg0 (none, 0, 0)) rfl rfl _ _ (C2) rg_info rfl (rgv_one _ _) ?_; intro w8 B8 g8))
  have hw8 := hw1.trans (below_grown g8 (by omega) hw1.size)
  apply ret_of
  · exact results_blk_tmp rfl _ _ _ _ _ _ rfl (B8) Try.underlying24 rfl rg_info _ rfl
  · exact ⟨rfl, DocP.no HM.out rfl hw8⟩

set_option maxHeartbeats 8000000 in
theorem doc_on (r : RegS) (sl : SlcE) (x : RecV) (w : World) (hm : mayR r = true) (hk2 : x.kind ≠ 2) (hl : LogAt w w.heap.size sl r.log) (hx : LogAt w w.heap.size x.es x.ents) (hx2 : x.ents.length ≤ 1000) :
    Calls Try.prog 17 #[.agg (rgv r sl).toArray, .agg (rcv x).toArray] w (DocP r x.s w) := by
  have m64 : r.log.length ≤ 64 := ((okLog_iff _ _).1 ((mayR_iff r).1 hm).2.1).1
  obtain ⟨As, ns, cs⟩ := sl
  obtain rfl : ns = r.log.length := hl.1
  have hz : Below w.heap.size w (((w.alloc (.cells (rgv r (As, r.log.length, cs)).toArray 24)).alloc (.cells (rcv x).toArray 27)).alloc (.cells (rgv reg0 (none, 0, 0)).toArray 24)) := (((Below.refl _ _).alloc (Nat.le_refl _) _).alloc (by simp) _).alloc (by simp; omega) _
  have BZ : Blk (((w.alloc (.cells (rgv r (As, r.log.length, cs)).toArray 24)).alloc (.cells (rcv x).toArray 27)).alloc (.cells (rgv reg0 (none, 0, 0)).toArray 24)) (w.heap.size + 1 + 1) 24 (rgv reg0 (none, 0, 0)) := Blk.newAt _ _ _ (by simp)
  have B0 : Blk (((w.alloc (.cells (rgv r (As, r.log.length, cs)).toArray 24)).alloc (.cells (rcv x).toArray 27)).alloc (.cells (rgv reg0 (none, 0, 0)).toArray 24)) w.heap.size 24 (rgv r (As, r.log.length, cs)) := ((Blk.new w _ _).alloc _).alloc _
  have B1 : Blk (((w.alloc (.cells (rgv r (As, r.log.length, cs)).toArray 24)).alloc (.cells (rcv x).toArray 27)).alloc (.cells (rgv reg0 (none, 0, 0)).toArray 24)) (w.heap.size + 1) 27 (rcv x) := (Blk.newAt _ _ _ (by simp)).alloc _
  have hc := rcheck15_any r (As, r.log.length, cs) _ (hl.keep hz)
  rw [hm] at hc
  have HM := Lib.hid hm
  have HLX := Lib.hid (And.intro hl hx)
  have HH := Lib.hid (And.intro hz (And.intro BZ (And.intro B0 (And.intro B1 hc))))
  clear hz BZ B0 B1 hc hl hm hx
  go_enter Try.func17, Try.ntmps17
  go_wp2_with ((with_reducible refine at_list ?_); refine wpList_load_blk rfl 24 _ rfl _ rfl _ _ _ (HH.out.2.2.1) Try.underlying24 rfl rg_info ?_)
  refine HH.out.2.2.2.2.mono ?_
  rintro e w1 ⟨rfl, hb⟩
  have hw1 := below_trans HH.out.1 hb HH.out.1.size
  have hz1 := hw1.size
  have CZ := HH.out.2.1.keep hb
  have C0 := HH.out.2.2.1.keep hb
  have C1 := HH.out.2.2.2.1.keep hb
  have lZ := CZ.lt
  have HL1 := Lib.hid (HLX.out.1.keep hw1)
  clear HH hb
  go_wp2_with fail
  refine wp_region_t (.quiet 0 (.quiet 1 (.quiet 2 (.quiet 3 (.quiet 4 (.quiet 5 (.quiet 7 (.quiet 8 (.two 6 10 (.quiet 9 (.one 10 (.one 11 .done))) (.one 6 (.quiet 9 (.one 11 .done)))))))))))) (fun w' => Below w1.heap.size w1 w' ∧ Blk w' w.heap.size 24 (rgv r (As, r.log.length, cs))) (by kernel_rfl) (by kernel_rfl) (by kernel_rfl) (by kernel_rfl) (⟨(Below.refl _ _).drew, C0.drew⟩) rfl ?_
  intro KP RP TP hKP hTP hTP'
  simp only [Sch.fill, nth]
  apply merge2 (Inv := fun g s w' => Below w1.heap.size w1 w' ∧ w1.heap.size ≤ g ∧ Blk w' g 24 (rgv r s) ∧ LogAt w' w'.heap.size s r.log) (K := KP)
  · intro HK
    have hQ : Below w1.heap.size w1 w1.drew := (Below.refl _ _).drew
    generalize w1.drew = wc at hQ ⊢
    go_wp2_with (first
      | (apply SeqT.skip; rfl; simp only [Act.put, List.setIfInBounds_toArray, List.set_cons_zero, List.set_cons_succ])
      | (apply SeqT.pure; rfl; (intro w9 hw9; have hw9 := hTP _ hw9; (have z0 := hw9.2.cell 0; have z1 := hw9.2.cell 1; have z2 := hw9.2.cell 2; have z3 := hw9.2.cell 3; simp [rgv] at z0 z1 z2 z3); go_simp; with_reducible rfl); simp only [Act.put, List.setIfInBounds_toArray, List.set_cons_zero, List.set_cons_succ]))
    apply SeqT.two
    · apply EffT.go
      · rfl
      intro KE hKE
      obtain ⟨v, w4, hrun, hRv, hb⟩ := copy_nil r.log As cs wc (HL1.out.keep hQ).2.2.2 (by omega)
      refine oper_app (by rfl) (by rfl) (by rfl) hrun ?_
      obtain ⟨s, rfl, hs⟩ := hRv.log
      have hw4 := below_trans hQ hb hQ.size
      refine hKE _ _ (hTP' _ ⟨hw4, C0.keep hw4⟩) ?_
      clear hKE KE hrun hRv
      go_wp2_with (first
        | (apply SeqT.skip; rfl; simp only [Act.put, List.setIfInBounds_toArray, List.set_cons_zero, List.set_cons_succ])
        | (apply SeqT.pure; rfl; (intro w9 hw9; have hw9 := hTP _ hw9; (have z0 := hw9.2.cell 0; have z1 := hw9.2.cell 1; have z2 := hw9.2.cell 2; have z3 := hw9.2.cell 3; simp [rgv] at z0 z1 z2 z3); go_simp; with_reducible rfl); simp only [Act.put, List.setIfInBounds_toArray, List.set_cons_zero, List.set_cons_succ]))
      apply SeqT.one
      apply EffT.go
      · rfl
      intro KE hKE
      go_wp2_with fail
      refine eff_abs hKE (fun W' => Below w4.heap.size w4 W' ∧ Blk W' w4.heap.size 24 (rgv reg0 (none, 0, 0))) ⟨(Below.refl _ _).alloc (Nat.le_refl _) _, Blk.new w4 _ _⟩ (fun W' h => hTP' _ ⟨below_trans hw4 h.1 hw4.size, C0.keep (below_trans hw4 h.1 hw4.size)⟩) ?_
      rintro w5 ⟨hb5, Z5⟩
      have hw5 := below_trans hw4 hb5 hw4.size
      have hs5 := hs.keep hb5
      have hgz := hw4.size
      clear hKE KE hs hb5
      generalize w4.heap.size = gz at Z5 hgz ⊢
      apply SeqT.one
      apply EffT.go
      · rfl
      intro KE hKE
      refine wp_store_own 24 _ _ rfl _ (rgv r s) rfl rfl _ _ Z5 rg_info rfl (rgv_one _ _) ?_
      intro w6 B6 g6
      have hw6 := hw5.trans (below_grown g6 hgz hw5.size)
      have hs6 := hs5.stored Z5 (by simp [rgv]) g6
      refine hKE _ _ (hTP' _ ⟨hw6, C0.keep hw6⟩) ?_
      clear hKE KE
      go_wp2_with (first
        | (apply SeqT.skip; rfl; simp only [Act.put, List.setIfInBounds_toArray, List.set_cons_zero, List.set_cons_succ])
        | (apply SeqT.pure; rfl; (intro w9 hw9; have hw9 := hTP _ hw9; (have z0 := hw9.2.cell 0; have z1 := hw9.2.cell 1; have z2 := hw9.2.cell 2; have z3 := hw9.2.cell 3; simp [rgv] at z0 z1 z2 z3); go_simp; with_reducible rfl); simp only [Act.put, List.setIfInBounds_toArray, List.set_cons_zero, List.set_cons_succ]))
      apply SeqT.done
      exact HK gz s _ ⟨hw6, hgz, B6, hs6⟩
    · apply EffT.go
      · rfl
      intro KE hKE
      go_wp2_with fail
      refine eff_abs hKE (fun W' => Below wc.heap.size wc W' ∧ Blk W' wc.heap.size 24 (rgv reg0 (none, 0, 0))) ⟨(Below.refl _ _).alloc (Nat.le_refl _) _, Blk.new wc _ _⟩ (fun W' h => hTP' _ ⟨below_trans hQ h.1 hQ.size, C0.keep (below_trans hQ h.1 hQ.size)⟩) ?_
      rintro w5 ⟨hb5, Z5⟩
      have hw5 := below_trans hQ hb5 hQ.size
      have hgz := hQ.size
      clear hKE KE hb5
      generalize wc.heap.size = gz at Z5 hgz ⊢
      go_wp2_with (first
        | (apply SeqT.skip; rfl; simp only [Act.put, List.setIfInBounds_toArray, List.set_cons_zero, List.set_cons_succ])
        | (apply SeqT.pure; rfl; (intro w9 hw9; have hw9 := hTP _ hw9; (have z0 := hw9.2.cell 0; have z1 := hw9.2.cell 1; have z2 := hw9.2.cell 2; have z3 := hw9.2.cell 3; simp [rgv] at z0 z1 z2 z3); go_simp; with_reducible rfl); simp only [Act.put, List.setIfInBounds_toArray, List.set_cons_zero, List.set_cons_succ]))
      apply SeqT.one
      apply EffT.go
      · rfl
      intro KE hKE
      obtain ⟨v, w4, hrun, hRv, hb⟩ := copy_nil r.log As cs w5 (HL1.out.keep hw5).2.2.2 (by omega)
      refine oper_app (by rfl) (by rfl) (by rfl) hrun ?_
      obtain ⟨s, rfl, hs⟩ := hRv.log
      have hw4 := below_trans hw5 hb hw5.size
      have Z4 := Z5.keep hb
      refine hKE _ _ (hTP' _ ⟨hw4, C0.keep hw4⟩) ?_
      clear hKE KE hrun hRv
      go_wp2_with (first
        | (apply SeqT.skip; rfl; simp only [Act.put, List.setIfInBounds_toArray, List.set_cons_zero, List.set_cons_succ])
        | (apply SeqT.pure; rfl; (intro w9 hw9; have hw9 := hTP _ hw9; (have z0 := hw9.2.cell 0; have z1 := hw9.2.cell 1; have z2 := hw9.2.cell 2; have z3 := hw9.2.cell 3; simp [rgv] at z0 z1 z2 z3); go_simp; with_reducible rfl); simp only [Act.put, List.setIfInBounds_toArray, List.set_cons_zero, List.set_cons_succ]))
      apply SeqT.one
      apply EffT.go
      · rfl
      intro KE hKE
      refine wp_store_own 24 _ _ rfl _ (rgv r s) rfl rfl _ _ Z4 rg_info rfl (rgv_one _ _) ?_
      intro w6 B6 g6
      have hw6 := hw4.trans (below_grown g6 hgz hw4.size)
      have hs6 := hs.stored Z4 (by simp [rgv]) g6
      refine hKE _ _ (hTP' _ ⟨hw6, C0.keep hw6⟩) ?_
      clear hKE KE
      go_wp2_with (first
        | (apply SeqT.skip; rfl; simp only [Act.put, List.setIfInBounds_toArray, List.set_cons_zero, List.set_cons_succ])
        | (apply SeqT.pure; rfl; (intro w9 hw9; have hw9 := hTP _ hw9; (have z0 := hw9.2.cell 0; have z1 := hw9.2.cell 1; have z2 := hw9.2.cell 2; have z3 := hw9.2.cell 3; simp [rgv] at z0 z1 z2 z3); go_simp; with_reducible rfl); simp only [Act.put, List.setIfInBounds_toArray, List.set_cons_zero, List.set_cons_succ]))
      apply SeqT.done
      exact HK gz s _ ⟨hw6, hgz, B6, hs6⟩
  intro g s w3 ⟨hb, hge, G3, hs⟩
  refine hKP _ _ (hTP' _ ⟨hb, C0.keep hb⟩) ?_
  clear hKP hTP hTP'
  have hw3 := below_trans hw1 hb hz1
  have E0 := C0.keep hb
  have E1 := C1.keep hb
  have E2 := CZ.keep hb
  have HS := Lib.hid hs
  have HL3 := Lib.hid (And.intro (HLX.out.1.keep hw3) (HLX.out.2.keep hw3))
  have hz3 := hw3.size
  have l3 := E2.lt
  have lG := G3.lt
  have hgg : w.heap.size + 1 + 1 < g := by omega
  clear hb C0 C1 CZ HL1 hw1 hz1 lZ hge hs
  try clear w1
  have lE1 := E1.lt
  have lE0 := E0.lt
  have x0 := E1.cell 0
  have x2 := E1.cell 2
  have x5 := E1.cell 5
  have r0 := E0.cell 0
  have r2 := E0.cell 2
  have r3 := E0.cell 3
  have fr := G3.frozen
  have g0 := G3.cell 0
  have g3 := G3.cell 3
  simp [rcv] at x0 x2 x5
  simp [rgv] at r0 r2 r3 g0 g3
  by_cases k1 : x.kind = 1
  case pos =>
    rw [k1] at x0
    have hA : applyR r x.s = if r.prom < x.epoch ∧ x.epoch ≤ 1048576 then some { r with prom := x.epoch } else none := apply_1 (x := x.s) HM.out k1
    have F0 := G3.set 0 (.int .i64 x.epoch)
    have F0 : Blk _ _ _ (rgv { r with prom := x.epoch } s) := F0.of_eq rfl
    have F2 := E2.far (p := ⟨g, 0, none⟩) (by simp; omega) (.int .i64 x.epoch)
    have g4 : w3.grownBy (w3.setCell ⟨g, 0, none⟩ (.int .i64 x.epoch)) (some g) := by (repeat (first | with_reducible apply only_drew | with_reducible refine only_setCell ?_ (by first | exact Or.inl rfl | (right; simp; done) | (right; simp; omega) | (right; omega)) _ | with_reducible refine only_alloc ?_ _ | with_reducible exact World.grownBy.refl _ _ | with_reducible assumption))
    have hw4 := hw3.trans (below_grown g4 (by omega) hz3)
    have S4 := HS.out.stored G3 (by simp [rgv]) g4
    have H4 := Lib.hid (And.intro hw4 S4)
    clear hw4 S4 g4 k1
    by_cases hc : r.prom < x.epoch ∧ x.epoch ≤ 1048576
    · rw [if_pos hc] at hA
      have HA := Lib.hid hA
      obtain ⟨c1, c2⟩ := hc
      have c1b : ¬ x.epoch ≤ r.prom := by omega
      have c2b : ¬ (1048576 : Int) < x.epoch := by omega
      clear hA
      go_wp2_with ((with_reducible refine at_list ?_); first | refine wpList_load_blk rfl 24 _ rfl _ rfl _ _ _ (F0) Try.underlying24 rfl rg_info ?_ | (refine wpList_store_own rfl 24 _ _ rfl _ (rgv _ s) rfl rfl _ _ (F2) rg_info rfl (rgv_one _ _) ?_; intro w8 B8 g8))
      have hw8 := H4.out.1.trans (below_grown g8 (by omega) H4.out.1.size)
      have S8 := H4.out.2.stored F2 (by simp [rgv]) g8
      apply ret_of
      · exact results_blk_tmp rfl _ _ _ _ _ _ rfl (B8) Try.underlying24 rfl rg_info _ rfl
      · exact ⟨rfl, DocP.yes HA.out s rfl S8 hw8⟩
    · rw [if_neg hc] at hA
      have HA := Lib.hid hA
      clear hA F0 F2
      have hcc : x.epoch ≤ r.prom ∨ (¬ x.epoch ≤ r.prom ∧ (1048576 : Int) < x.epoch) := by omega
      clear hc H4
      rcases hcc with c1 | ⟨c1, c2⟩
      all_goals
        go_wp2_with ((with_reducible refine at_list ?_); (refine wpList_store_own rfl 24 _ _ rfl _ (rgv reg0 (none, 0, 0)) rfl rfl _ _ (E2) rg_info rfl (rgv_one _ _) ?_; intro w8 B8 g8))
        have hw8 := hw3.trans (below_grown g8 (by omega) hz3)
        apply ret_of
        · exact results_blk_tmp rfl _ _ _ _ _ _ rfl (B8) Try.underlying24 rfl rg_info _ rfl
        · exact ⟨rfl, DocP.no HA.out rfl hw8⟩
  by_cases k2 : x.kind = 2
  case pos => exact absurd k2 hk2
  by_cases k3 : x.kind = 3
  case pos =>
    rw [k3] at x0
    have hA : applyR r x.s = if r.com < x.len ∧ x.len ≤ (r.log.length : Int) then some { r with com := x.len } else none := apply_3 (x := x.s) HM.out k3
    have F0 := G3.set 3 (.int .i64 x.len)
    have F0 : Blk _ _ _ (rgv { r with com := x.len } s) := F0.of_eq rfl
    have F2 := E2.far (p := ⟨g, 3, none⟩) (by simp; omega) (.int .i64 x.len)
    have g4 : w3.grownBy (w3.setCell ⟨g, 3, none⟩ (.int .i64 x.len)) (some g) := by (repeat (first | with_reducible apply only_drew | with_reducible refine only_setCell ?_ (by first | exact Or.inl rfl | (right; simp; done) | (right; simp; omega) | (right; omega)) _ | with_reducible refine only_alloc ?_ _ | with_reducible exact World.grownBy.refl _ _ | with_reducible assumption))
    have hw4 := hw3.trans (below_grown g4 (by omega) hz3)
    have S4 := HS.out.stored G3 (by simp [rgv]) g4
    have H4 := Lib.hid (And.intro hw4 S4)
    clear hw4 S4 g4 k1 k2 k3
    by_cases hc : r.com < x.len ∧ x.len ≤ (r.log.length : Int)
    · rw [if_pos hc] at hA
      have HA := Lib.hid hA
      obtain ⟨c1, c2⟩ := hc
      have c1b : ¬ x.len ≤ r.com := by omega
      have c2b : ¬ (r.log.length : Int) < x.len := by omega
      clear hA
      go_wp2_with ((with_reducible refine at_list ?_); first | refine wpList_load_blk rfl 24 _ rfl _ rfl _ _ _ (F0) Try.underlying24 rfl rg_info ?_ | (refine wpList_store_own rfl 24 _ _ rfl _ (rgv _ s) rfl rfl _ _ (F2) rg_info rfl (rgv_one _ _) ?_; intro w8 B8 g8))
      have hw8 := H4.out.1.trans (below_grown g8 (by omega) H4.out.1.size)
      have S8 := H4.out.2.stored F2 (by simp [rgv]) g8
      apply ret_of
      · exact results_blk_tmp rfl _ _ _ _ _ _ rfl (B8) Try.underlying24 rfl rg_info _ rfl
      · exact ⟨rfl, DocP.yes HA.out s rfl S8 hw8⟩
    · rw [if_neg hc] at hA
      have HA := Lib.hid hA
      clear hA F0 F2
      have hcc : x.len ≤ r.com ∨ (¬ x.len ≤ r.com ∧ (r.log.length : Int) < x.len) := by omega
      clear hc H4
      rcases hcc with c1 | ⟨c1, c2⟩
      all_goals
        go_wp2_with ((with_reducible refine at_list ?_); (refine wpList_store_own rfl 24 _ _ rfl _ (rgv reg0 (none, 0, 0)) rfl rfl _ _ (E2) rg_info rfl (rgv_one _ _) ?_; intro w8 B8 g8))
        have hw8 := hw3.trans (below_grown g8 (by omega) hz3)
        apply ret_of
        · exact results_blk_tmp rfl _ _ _ _ _ _ rfl (B8) Try.underlying24 rfl rg_info _ rfl
        · exact ⟨rfl, DocP.no HA.out rfl hw8⟩
  by_cases k4 : x.kind = 4
  case pos =>
    rw [k4] at x0
    have hA : applyR r x.s = if r.prom = 0 ∧ mayR ⟨x.epoch, x.view, x.ents, x.len⟩ = true then some ⟨x.epoch, x.view, x.ents, x.len⟩ else none := apply_4 (x := x.s) HM.out k4
    have HA := Lib.hid hA
    have hes : x.es.2.1 = x.ents.length := HL3.out.2.1
    have HLE : Hid (∀ W', Below w3.heap.size w3 W' → LogAt W' W'.heap.size (x.es.1, x.ents.length, x.es.2.2) x.ents) := Lib.hid (fun W' h => by have h2 := HL3.out.2.keep h; exact ⟨rfl, h2.2.1, h2.2.2.1, h2.2.2.2⟩)
    clear hA k1 k2 k3 k4 x2 x5 r2 r3 r0 g0 g3 fr
    go_wp2_with fail
    clear x0
    refine wp_region_p ([(0, true), (1, true), (2, true), (3, true), (4, true), (5, true), (7, true), (8, true), (6, false), (9, true), (10, false)]) (fun w' => Blk w' (w.heap.size + 1) 27 (rcv x)) (by kernel_rfl) rfl (by kernel_rfl) (by kernel_rfl) (E1.drew) rfl ?_
    intro KP RP TP hKP hTP hTP'
    simp only [pick, nth]
    go_wp2_with (first
      | (apply SeqP.skip; rfl; simp only [Act.put, List.setIfInBounds_toArray, List.set_cons_zero, List.set_cons_succ])
      | (apply SeqP.call; rfl; rfl; (intro w2 hw; have hw := hTP _ hw; ((have z2 := hw.cell 2; have z3 := hw.cell 3; have z5 := hw.cell 5; have z6 := hw.cell 6; simp [rcv] at z2 z3 z5 z6; rw [hes] at z6)); go_simp; exact ⟨rfl, rfl⟩); (intro w2 hw; have hw := hTP _ hw; ((have z2 := hw.cell 2; have z3 := hw.cell 3; have z5 := hw.cell 5; have z6 := hw.cell 6; simp [rcv] at z2 z3 z5 z6; rw [hes] at z6)); (first | fail)); simp only [Act.put, List.setIfInBounds_toArray, List.set_cons_zero, List.set_cons_succ])
      | (apply SeqP.pure; rfl; (intro w2 hw; have hw := hTP _ hw; ((have z2 := hw.cell 2; have z3 := hw.cell 3; have z5 := hw.cell 5; have z6 := hw.cell 6; simp [rcv] at z2 z3 z5 z6; rw [hes] at z6)); go_simp; with_reducible rfl); simp only [Act.put, List.setIfInBounds_toArray, List.set_cons_zero, List.set_cons_succ])
      | (apply SeqP.split; rfl; rfl; all_goals (intro hc; simp only [hc]; try simp only [beq_iff_eq, decide_eq_true_eq, beq_eq_false_iff_ne, decide_eq_false_iff_not, bne_iff_ne, ne_eq, Bool.not_eq_true', Bool.not_eq_false', Int.not_le, Int.not_lt, bne_eq_false_iff_eq, Bool.or_eq_true, Bool.and_eq_true, Bool.or_eq_false_iff] at hc)))
    apply SeqP.eff
    · rfl
    intro KE hKE
    have hQ : Below w3.heap.size w3 w3.drew := (Below.refl _ _).drew
    obtain ⟨v, w4, hrun, hRv, hb⟩ := copy_nil x.ents x.es.1 x.es.2.2 w3.drew (HLE.out _ hQ).2.2.2 (by omega)
    refine oper_app (by rfl) (by rfl) (by rfl) hrun ?_
    obtain ⟨s2, rfl, hs2⟩ := hRv.log
    have hQ4 := below_trans hQ hb hQ.size
    refine hKE _ _ (hTP' _ (E1.keep hQ4)) ?_
    clear hKE KE hrun hRv hb
    go_wp2_with (first
      | (apply SeqP.skip; rfl; simp only [Act.put, List.setIfInBounds_toArray, List.set_cons_zero, List.set_cons_succ])
      | (apply SeqP.call; rfl; rfl; (intro w2 hw; have hw := hTP _ hw; ((have z2 := hw.cell 2; have z3 := hw.cell 3; have z5 := hw.cell 5; have z6 := hw.cell 6; simp [rcv] at z2 z3 z5 z6; rw [hes] at z6)); go_simp; exact ⟨rfl, rfl⟩); (intro w2 hw; have hw := hTP _ hw; ((have z2 := hw.cell 2; have z3 := hw.cell 3; have z5 := hw.cell 5; have z6 := hw.cell 6; simp [rcv] at z2 z3 z5 z6; rw [hes] at z6)); (first | fail)); simp only [Act.put, List.setIfInBounds_toArray, List.set_cons_zero, List.set_cons_succ])
      | (apply SeqP.pure; rfl; (intro w2 hw; have hw := hTP _ hw; ((have z2 := hw.cell 2; have z3 := hw.cell 3; have z5 := hw.cell 5; have z6 := hw.cell 6; simp [rcv] at z2 z3 z5 z6; rw [hes] at z6)); go_simp; with_reducible rfl); simp only [Act.put, List.setIfInBounds_toArray, List.set_cons_zero, List.set_cons_succ])
      | (apply SeqP.split; rfl; rfl; all_goals (intro hc; simp only [hc]; try simp only [beq_iff_eq, decide_eq_true_eq, beq_eq_false_iff_ne, decide_eq_false_iff_not, bne_iff_ne, ne_eq, Bool.not_eq_true', Bool.not_eq_false', Int.not_le, Int.not_lt, bne_eq_false_iff_eq, Bool.or_eq_true, Bool.and_eq_true, Bool.or_eq_false_iff] at hc)))
    apply SeqP.eff
    · rfl
    intro KE hKE
    refine wp_store_own 24 _ _ rfl _ (rgv ⟨x.epoch, x.view, x.ents, x.len⟩ s2) rfl rfl _ _ (G3.keep hQ4) rg_info rfl (rgv_one _ _) ?_
    intro w5 B5 g5
    have ne : ∀ m, m ≠ g → some m ≠ some g := fun m h e => h (Option.some.inj e)
    have P0 := (E0.keep hQ4).grown g5 (ne _ (by omega))
    have P1 := (E1.keep hQ4).grown g5 (ne _ (by omega))
    have P2 := (E2.keep hQ4).grown g5 (ne _ (by omega))
    have hs5 := hs2.stored (G3.keep hQ4) (by simp [rgv]) g5
    have hw4 := below_trans hw3 hQ4 hz3
    have hw5 := hw4.trans (below_grown g5 (by omega) hw4.size)
    refine hKE _ _ (hTP' _ P1) ?_
    clear hKE KE hw4 hs2 g5 hQ hQ4 ne
    go_wp2_with (first
      | (apply SeqP.skip; rfl; simp only [Act.put, List.setIfInBounds_toArray, List.set_cons_zero, List.set_cons_succ])
      | (apply SeqP.call; rfl; rfl; (intro w2 hw; have hw := hTP _ hw; (skip); go_simp; exact ⟨rfl, rfl⟩); (intro w2 hw; have hw := hTP _ hw; (skip); (first | fail)); simp only [Act.put, List.setIfInBounds_toArray, List.set_cons_zero, List.set_cons_succ])
      | (apply SeqP.pure; rfl; (intro w2 hw; have hw := hTP _ hw; (skip); go_simp; with_reducible rfl); simp only [Act.put, List.setIfInBounds_toArray, List.set_cons_zero, List.set_cons_succ])
      | (apply SeqP.split; rfl; rfl; all_goals (intro hc; simp only [hc]; try simp only [beq_iff_eq, decide_eq_true_eq, beq_eq_false_iff_ne, decide_eq_false_iff_not, bne_iff_ne, ne_eq, Bool.not_eq_true', Bool.not_eq_false', Int.not_le, Int.not_lt, bne_eq_false_iff_eq, Bool.or_eq_true, Bool.and_eq_true, Bool.or_eq_false_iff] at hc)))
    apply SeqP.nil
    refine hKP _ _ (hTP' _ (P1)) ?_
    clear hKP hTP hTP'
    clear E0 E1 E2 G3 P1 hw3 HS HL3 HLE hz3 l3 lG lE1 lE0
    try clear w3
    have hz5 := hw5.size
    have r0 := P0.cell 0
    have lP0 := P0.lt
    have lPG := B5.lt
    simp [rgv] at r0
    by_cases hp : r.prom = 0
    · have hpb : (r.prom != 0) = false := by rw [bne_eq_false_iff_eq]; exact hp
      have HP := Lib.hid hp
      clear hp
      go_wp2_with ((with_reducible refine at_list ?_); refine wpList_load_blk_g 24 _ rfl rfl _ rfl _ _ _ (B5) Try.underlying24 rfl rg_info ?_)
      refine (rcheck15_any ⟨x.epoch, x.view, x.ents, x.len⟩ s2 w5 hs5).mono ?_
      rintro e w6 ⟨rfl, hb⟩
      have hw6 := below_trans hw5 hb hz5
      have Q2 := P2.keep hb
      have QG := B5.keep hb
      have hs6 := hs5.keep hb
      have hz6 := hw6.size
      clear hb P0 P2 B5 r0 hs5
      cases hm2 : mayR ⟨x.epoch, x.view, x.ents, x.len⟩ with
      | false =>
        have hN : applyR r x.s = none := by rw [HA.out, if_neg (fun h => by rw [hm2] at h; cases h.2)]
        have HN := Lib.hid hN
        clear hN hm2
        go_wp2_with ((with_reducible refine at_list ?_); first | refine wpList_load_blk rfl 24 _ rfl _ rfl _ _ _ (QG) Try.underlying24 rfl rg_info ?_ | (refine wpList_store_own rfl 24 _ _ rfl _ (rgv reg0 (none, 0, 0)) rfl rfl _ _ (Q2) rg_info rfl (rgv_one _ _) ?_; intro w8 B8 g8))
        have hw8 := hw6.trans (below_grown g8 (by omega) hz6)
        apply ret_of
        · exact results_blk_tmp rfl _ _ _ _ _ _ rfl (B8) Try.underlying24 rfl rg_info _ rfl
        · exact ⟨rfl, DocP.no HN.out rfl hw8⟩
      | true =>
        have hN : applyR r x.s = some ⟨x.epoch, x.view, x.ents, x.len⟩ := by rw [HA.out, if_pos ⟨HP.out, hm2⟩]
        have HN := Lib.hid hN
        clear hN hm2
        go_wp2_with ((with_reducible refine at_list ?_); first | refine wpList_load_blk rfl 24 _ rfl _ rfl _ _ _ (QG) Try.underlying24 rfl rg_info ?_ | (refine wpList_store_own rfl 24 _ _ rfl _ (rgv _ s2) rfl rfl _ _ (Q2) rg_info rfl (rgv_one _ _) ?_; intro w8 B8 g8))
        have hw8 := hw6.trans (below_grown g8 (by omega) hz6)
        have hs8 := hs6.stored Q2 (by simp [rgv]) g8
        apply ret_of
        · exact results_blk_tmp rfl _ _ _ _ _ _ rfl (B8) Try.underlying24 rfl rg_info _ rfl
        · exact ⟨rfl, DocP.yes HN.out s2 rfl hs8 hw8⟩
    · have hpb : (r.prom != 0) = true := by rw [bne_iff_ne]; exact hp
      have hN : applyR r x.s = none := by rw [HA.out, if_neg (fun h => hp h.1)]
      have HN := Lib.hid hN
      clear hN hp
      go_wp2_with ((with_reducible refine at_list ?_); first | refine wpList_load_blk rfl 24 _ rfl _ rfl _ _ _ (B5) Try.underlying24 rfl rg_info ?_ | (refine wpList_store_own rfl 24 _ _ rfl _ (rgv reg0 (none, 0, 0)) rfl rfl _ _ (P2) rg_info rfl (rgv_one _ _) ?_; intro w8 B8 g8))
      have hw8 := hw5.trans (below_grown g8 (by omega) hz5)
      apply ret_of
      · exact results_blk_tmp rfl _ _ _ _ _ _ rfl (B8) Try.underlying24 rfl rg_info _ rfl
      · exact ⟨rfl, DocP.no HN.out rfl hw8⟩
  have HN := Lib.hid (apply_else (r := r) (x := x.s) k1 k2 k3 k4)
  have b1 : (x.kind == 1) = false := by rw [beq_eq_false_iff_ne]; exact k1
  have b2 : (x.kind == 2) = false := by rw [beq_eq_false_iff_ne]; exact k2
  have b3 : (x.kind == 3) = false := by rw [beq_eq_false_iff_ne]; exact k3
  have b4 : (x.kind == 4) = false := by rw [beq_eq_false_iff_ne]; exact k4
  go_wp2_with ((with_reducible refine at_list ?_); (refine wpList_store_own rfl 24 _ _ rfl _ (rgv reg0 (none, 0, 0)) rfl rfl _ _ (E2) rg_info rfl (rgv_one _ _) ?_; intro w8 B8 g8))
  have hw8 := hw3.trans (below_grown g8 (by omega) hz3)
  apply ret_of
  · exact results_blk_tmp rfl _ _ _ _ _ _ rfl (B8) Try.underlying24 rfl rg_info _ rfl
  · exact ⟨rfl, DocP.no HN.out rfl hw8⟩

theorem doc_any (r : RegS) (sl : SlcE) (x : RecV) (w : World) (hl : LogAt w w.heap.size sl r.log) (hx : LogAt w w.heap.size x.es x.ents) (hx2 : x.ents.length ≤ 1000) :
    Calls Try.prog 17 #[.agg (rgv r sl).toArray, .agg (rcv x).toArray] w (DocP r x.s w) := by
  cases hm : mayR r with
  | false => exact doc_off r sl x w hm hl
  | true =>
    by_cases hk : x.kind = 2
    · exact doc_2 r sl x w hm hk hl hx hx2
    · exact doc_on r sl x w hm hk hl hx hx2
end Go.Proofs.Ytbicefilfhcgoaa
