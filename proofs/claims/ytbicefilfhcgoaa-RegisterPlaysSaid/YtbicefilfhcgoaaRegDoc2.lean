/-
  The walk over the document's 'Apply', of a view's record.
-/
import Derived.Test.YtbicefilfhcgoaaRegHeld
import Derived.Test.YtbicefilfhcgoaaRegRef
set_option linter.unusedSimpArgs false
set_option linter.unusedVariables false
set_option maxRecDepth 100000
namespace Go.Proofs.Ytbicefilfhcgoaa
open Go Go.RowKit Go.Sq Go.Wd Go.Arch

/-- append to nil. -/
theorem copy_nil (l : List Ent) (A : Option Addr) (c : Nat) (W : World) (ha : Ents W W.heap.size A l) (hl : l.length ≤ 2000) :
    ∃ v' w', (Builtin.append_ #[22, 22] 22 #[.slice none 0 0, .slice A l.length c]).run Try.prog W = .ok v' w' ∧ Row w' W.heap.size v' l ∧ Below W.heap.size W w' := by
  obtain ⟨v1, w1, h1, h2, h3, _⟩ := Row.app (Row.nil W W.heap.size) A c ha (by simpa using hl) (Nat.le_refl _)
  exact ⟨v1, w1, h1, h2, below_own (Below.refl _ _) h3 (Row.nil W W.heap.size) (Nat.le_refl _)⟩

/-- What the document's Apply tells. -/
def DocP (r : RegS) (x : RecS) (w : World) (e : Ending) (w' : World) : Prop :=
  ∃ sl : SlcE, e = .returned (.tuple #[.agg (rgv (regR (applyR r x)).1 sl).toArray, .bool (regR (applyR r x)).2]) ∧ LogAt w' w'.heap.size sl (regR (applyR r x)).1.log ∧ Below w.heap.size w w'
theorem DocP.no {r : RegS} {x : RecS} {w w' : World} {e : Ending} (h : applyR r x = none) (he : e = .returned (.tuple #[.agg (rgv reg0 (none, 0, 0)).toArray, .bool false])) (hb : Below w.heap.size w w') : DocP r x w e w' := by
  refine ⟨(none, 0, 0), ?_, ?_, hb⟩
  · rw [h]; exact he
  · rw [h]; exact LogAt.nil
theorem DocP.yes {r a : RegS} {x : RecS} {w w' : World} {e : Ending} (h : applyR r x = some a) (sl : SlcE) (he : e = .returned (.tuple #[.agg (rgv a sl).toArray, .bool true])) (hl : LogAt w' w'.heap.size sl a.log) (hb : Below w.heap.size w w') : DocP r x w e w' := by
  refine ⟨sl, ?_, ?_, hb⟩
  · rw [h]; exact he
  · rw [h]; exact hl

set_option maxHeartbeats 8000000 in
theorem doc_2 (r : RegS) (sl : SlcE) (x : RecV) (w : World) (hm : mayR r = true) (k2 : x.kind = 2) (hl : LogAt w w.heap.size sl r.log) (hx : LogAt w w.heap.size x.es x.ents) (hx2 : x.ents.length ≤ 1000) :
    Calls Try.prog 17 #[.agg (rgv r sl).toArray, .agg (rcv x).toArray] w (DocP r x.s w) := by
  have m64 : r.log.length ≤ 64 := ((okLog_iff _ _).1 ((mayR_iff r).1 hm).2.1).1
  obtain ⟨As, ns, cs⟩ := sl
  obtain rfl : ns = r.log.length := hl.1
  have hz : Below w.heap.size w (((w.alloc (.cells (rgv r (As, r.log.length, cs)).toArray 24)).alloc (.cells (rcv x).toArray 27)).alloc (.cells (rgv reg0 (none, 0, 0)).toArray 24)) := (((Below.refl _ _).alloc (Nat.le_refl _) _).alloc (by simp) _).alloc (by simp; omega) _
  have BZ : Blk (((w.alloc (.cells (rgv r (As, r.log.length, cs)).toArray 24)).alloc (.cells (rcv x).toArray 27)).alloc (.cells (rgv reg0 (none, 0, 0)).toArray 24)) (w.heap.size + 1 + 1) 24 (rgv reg0 (none, 0, 0)) := Blk.newAt _ _ _ (by simp)
  have B0 : Blk (((w.alloc (.cells (rgv r (As, r.log.length, cs)).toArray 24)).alloc (.cells (rcv x).toArray 27)).alloc (.cells (rgv reg0 (none, 0, 0)).toArray 24)) w.heap.size 24 (rgv r (As, r.log.length, cs)) := ((Blk.new w _ _).alloc _).alloc _
  have B1 : Blk (((w.alloc (.cells (rgv r (As, r.log.length, cs)).toArray 24)).alloc (.cells (rcv x).toArray 27)).alloc (.cells (rgv reg0 (none, 0, 0)).toArray 24)) (w.heap.size + 1) 27 (rcv x) := (Blk.newAt _ _ _ (by simp)).alloc _
  have hc := rcheck15_any r (As, r.log.length, cs) _ (hl.keep hz)
  rw [hm] at hc
  have HM := Lib.hid hm
  have HLX := Lib.hid (And.intro hl hx)
  have HH := Lib.hid (And.intro hz (And.intro BZ (And.intro B0 (And.intro B1 hc))))
  clear hz BZ B0 B1 hc hl hm hx
  go_enter Try.func17, Try.ntmps17
  go_wp2_with ((with_reducible refine at_list ?_); refine wpList_load_blk rfl 24 _ rfl _ rfl _ _ _ (HH.out.2.2.1) Try.underlying24 rfl rg_info ?_)
  refine HH.out.2.2.2.2.mono ?_
  rintro e w1 ⟨rfl, hb⟩
  have hw1 := below_trans HH.out.1 hb HH.out.1.size
  have hz1 := hw1.size
  have CZ := HH.out.2.1.keep hb
  have C0 := HH.out.2.2.1.keep hb
  have C1 := HH.out.2.2.2.1.keep hb
  have lZ := CZ.lt
  have HL1 := Lib.hid (HLX.out.1.keep hw1)
  clear HH hb
  go_wp2_with fail
  refine wp_region_t (.quiet 0 (.quiet 1 (.quiet 2 (.quiet 3 (.quiet 4 (.quiet 5 (.quiet 7 (.quiet 8 (.two 6 10 (.quiet 9 (.one 10 (.one 11 .done))) (.one 6 (.quiet 9 (.one 11 .done)))))))))))) (fun w' => Below w1.heap.size w1 w' ∧ Blk w' w.heap.size 24 (rgv r (As, r.log.length, cs))) (by kernel_rfl) (by kernel_rfl) (by kernel_rfl) (by kernel_rfl) (⟨(Below.refl _ _).drew, C0.drew⟩) rfl ?_
  intro KP RP TP hKP hTP hTP'
  simp only [Sch.fill, nth]
  apply merge2 (Inv := fun g s w' => Below w1.heap.size w1 w' ∧ w1.heap.size ≤ g ∧ Blk w' g 24 (rgv r s) ∧ LogAt w' w'.heap.size s r.log) (K := KP)
  · intro HK
    have hQ : Below w1.heap.size w1 w1.drew := (Below.refl _ _).drew
    generalize w1.drew = wc at hQ ⊢
    go_wp2_with (first
      | (apply SeqT.skip; rfl; simp only [Act.put, List.setIfInBounds_toArray, List.set_cons_zero, List.set_cons_succ])
      | (apply SeqT.pure; rfl; (intro w9 hw9; have hw9 := hTP _ hw9; (have z0 := hw9.2.cell 0; have z1 := hw9.2.cell 1; have z2 := hw9.2.cell 2; have z3 := hw9.2.cell 3; simp [rgv] at z0 z1 z2 z3); go_simp; with_reducible rfl); simp only [Act.put, List.setIfInBounds_toArray, List.set_cons_zero, List.set_cons_succ]))
    apply SeqT.two
    · apply EffT.go
      · rfl
      intro KE hKE
      obtain ⟨v, w4, hrun, hRv, hb⟩ := copy_nil r.log As cs wc (HL1.out.keep hQ).2.2.2 (by omega)
      refine oper_app (by rfl) (by rfl) (by rfl) hrun ?_
      obtain ⟨s, rfl, hs⟩ := hRv.log
      have hw4 := below_trans hQ hb hQ.size
      refine hKE _ _ (hTP' _ ⟨hw4, C0.keep hw4⟩) ?_
      clear hKE KE hrun hRv
      go_wp2_with (first
        | (apply SeqT.skip; rfl; simp only [Act.put, List.setIfInBounds_toArray, List.set_cons_zero, List.set_cons_succ])
        | (apply SeqT.pure; rfl; (intro w9 hw9; have hw9 := hTP _ hw9; (have z0 := hw9.2.cell 0; have z1 := hw9.2.cell 1; have z2 := hw9.2.cell 2; have z3 := hw9.2.cell 3; simp [rgv] at z0 z1 z2 z3); go_simp; with_reducible rfl); simp only [Act.put, List.setIfInBounds_toArray, List.set_cons_zero, List.set_cons_succ]))
      apply SeqT.one
      apply EffT.go
      · rfl
      intro KE hKE
      go_wp2_with fail
      refine eff_abs hKE (fun W' => Below w4.heap.size w4 W' ∧ Blk W' w4.heap.size 24 (rgv reg0 (none, 0, 0))) ⟨(Below.refl _ _).alloc (Nat.le_refl _) _, Blk.new w4 _ _⟩ (fun W' h => hTP' _ ⟨below_trans hw4 h.1 hw4.size, C0.keep (below_trans hw4 h.1 hw4.size)⟩) ?_
      rintro w5 ⟨hb5, Z5⟩
      have hw5 := below_trans hw4 hb5 hw4.size
      have hs5 := hs.keep hb5
      have hgz := hw4.size
      clear hKE KE hs hb5
      generalize w4.heap.size = gz at Z5 hgz ⊢
      apply SeqT.one
      apply EffT.go
      · rfl
      intro KE hKE
      refine wp_store_own 24 _ _ rfl _ (rgv r s) rfl rfl _ _ Z5 rg_info rfl (rgv_one _ _) ?_
      intro w6 B6 g6
      have hw6 := hw5.trans (below_grown g6 hgz hw5.size)
      have hs6 := hs5.stored Z5 (by simp [rgv]) g6
      refine hKE _ _ (hTP' _ ⟨hw6, C0.keep hw6⟩) ?_
      clear hKE KE
      go_wp2_with (first
        | (apply SeqT.skip; rfl; simp only [Act.put, List.setIfInBounds_toArray, List.set_cons_zero, List.set_cons_succ])
        | (apply SeqT.pure; rfl; (intro w9 hw9; have hw9 := hTP _ hw9; (have z0 := hw9.2.cell 0; have z1 := hw9.2.cell 1; have z2 := hw9.2.cell 2; have z3 := hw9.2.cell 3; simp [rgv] at z0 z1 z2 z3); go_simp; with_reducible rfl); simp only [Act.put, List.setIfInBounds_toArray, List.set_cons_zero, List.set_cons_succ]))
      apply SeqT.done
      exact HK gz s _ ⟨hw6, hgz, B6, hs6⟩
    · apply EffT.go
      · rfl
      intro KE hKE
      go_wp2_with fail
      refine eff_abs hKE (fun W' => Below wc.heap.size wc W' ∧ Blk W' wc.heap.size 24 (rgv reg0 (none, 0, 0))) ⟨(Below.refl _ _).alloc (Nat.le_refl _) _, Blk.new wc _ _⟩ (fun W' h => hTP' _ ⟨below_trans hQ h.1 hQ.size, C0.keep (below_trans hQ h.1 hQ.size)⟩) ?_
      rintro w5 ⟨hb5, Z5⟩
      have hw5 := below_trans hQ hb5 hQ.size
      have hgz := hQ.size
      clear hKE KE hb5
      generalize wc.heap.size = gz at Z5 hgz ⊢
      go_wp2_with (first
        | (apply SeqT.skip; rfl; simp only [Act.put, List.setIfInBounds_toArray, List.set_cons_zero, List.set_cons_succ])
        | (apply SeqT.pure; rfl; (intro w9 hw9; have hw9 := hTP _ hw9; (have z0 := hw9.2.cell 0; have z1 := hw9.2.cell 1; have z2 := hw9.2.cell 2; have z3 := hw9.2.cell 3; simp [rgv] at z0 z1 z2 z3); go_simp; with_reducible rfl); simp only [Act.put, List.setIfInBounds_toArray, List.set_cons_zero, List.set_cons_succ]))
      apply SeqT.one
      apply EffT.go
      · rfl
      intro KE hKE
      obtain ⟨v, w4, hrun, hRv, hb⟩ := copy_nil r.log As cs w5 (HL1.out.keep hw5).2.2.2 (by omega)
      refine oper_app (by rfl) (by rfl) (by rfl) hrun ?_
      obtain ⟨s, rfl, hs⟩ := hRv.log
      have hw4 := below_trans hw5 hb hw5.size
      have Z4 := Z5.keep hb
      refine hKE _ _ (hTP' _ ⟨hw4, C0.keep hw4⟩) ?_
      clear hKE KE hrun hRv
      go_wp2_with (first
        | (apply SeqT.skip; rfl; simp only [Act.put, List.setIfInBounds_toArray, List.set_cons_zero, List.set_cons_succ])
        | (apply SeqT.pure; rfl; (intro w9 hw9; have hw9 := hTP _ hw9; (have z0 := hw9.2.cell 0; have z1 := hw9.2.cell 1; have z2 := hw9.2.cell 2; have z3 := hw9.2.cell 3; simp [rgv] at z0 z1 z2 z3); go_simp; with_reducible rfl); simp only [Act.put, List.setIfInBounds_toArray, List.set_cons_zero, List.set_cons_succ]))
      apply SeqT.one
      apply EffT.go
      · rfl
      intro KE hKE
      refine wp_store_own 24 _ _ rfl _ (rgv r s) rfl rfl _ _ Z4 rg_info rfl (rgv_one _ _) ?_
      intro w6 B6 g6
      have hw6 := hw4.trans (below_grown g6 hgz hw4.size)
      have hs6 := hs.stored Z4 (by simp [rgv]) g6
      refine hKE _ _ (hTP' _ ⟨hw6, C0.keep hw6⟩) ?_
      clear hKE KE
      go_wp2_with (first
        | (apply SeqT.skip; rfl; simp only [Act.put, List.setIfInBounds_toArray, List.set_cons_zero, List.set_cons_succ])
        | (apply SeqT.pure; rfl; (intro w9 hw9; have hw9 := hTP _ hw9; (have z0 := hw9.2.cell 0; have z1 := hw9.2.cell 1; have z2 := hw9.2.cell 2; have z3 := hw9.2.cell 3; simp [rgv] at z0 z1 z2 z3); go_simp; with_reducible rfl); simp only [Act.put, List.setIfInBounds_toArray, List.set_cons_zero, List.set_cons_succ]))
      apply SeqT.done
      exact HK gz s _ ⟨hw6, hgz, B6, hs6⟩
  intro g s w3 ⟨hb, hge, G3, hs⟩
  refine hKP _ _ (hTP' _ ⟨hb, C0.keep hb⟩) ?_
  clear hKP hTP hTP'
  have hw3 := below_trans hw1 hb hz1
  have E0 := C0.keep hb
  have E1 := C1.keep hb
  have E2 := CZ.keep hb
  have HS := Lib.hid hs
  have HL3 := Lib.hid (And.intro (HLX.out.1.keep hw3) (HLX.out.2.keep hw3))
  have hz3 := hw3.size
  have l3 := E2.lt
  have lG := G3.lt
  have hgg : w.heap.size + 1 + 1 < g := by omega
  clear hb C0 C1 CZ HL1 hw1 hz1 lZ hge hs
  try clear w1
  have lE1 := E1.lt
  have lE0 := E0.lt
  have x0 := E1.cell 0
  have x2 := E1.cell 2
  have x5 := E1.cell 5
  have r0 := E0.cell 0
  have r2 := E0.cell 2
  have r3 := E0.cell 3
  have fr := G3.frozen
  have g0 := G3.cell 0
  have g3 := G3.cell 3
  simp [rcv] at x0 x2 x5
  simp [rgv] at r0 r2 r3 g0 g3
  rw [k2] at x0
  have hA : applyR r x.s = viewR r x.s := apply_2 (x := x.s) HM.out k2
  have HA := Lib.hid hA
  have hes : x.es.2.1 = x.ents.length := HL3.out.2.1
  have HLE : Hid (∀ W', Below w3.heap.size w3 W' → LogAt W' W'.heap.size (x.es.1, x.ents.length, x.es.2.2) x.ents) := Lib.hid (fun W' h => by have h2 := HL3.out.2.keep h; exact ⟨rfl, h2.2.1, h2.2.2.1, h2.2.2.2⟩)
  have kcs : r.log.length ≤ cs := HL3.out.1.2.1
  have kcs2 : cs ≤ 9223372036854775807 := HL3.out.1.2.2.1
  have hcom := ((mayR_iff r).1 HM.out).2.2
  obtain ⟨C, hC⟩ := Int.eq_ofNat_of_zero_le hcom.1
  have hCle : C ≤ r.log.length := by have := hcom.2; omega
  clear hA k2 x5 g0 g3 fr hcom
  have r1 := E0.cell 1
  have x4 := E1.cell 4
  simp [rcv] at x4
  simp [rgv] at r1
  rw [hC] at r3
  have HC := Lib.hid hC
  clear hC
  obtain ⟨F, hF⟩ : ∃ F, F = fromR r x.s := ⟨_, rfl⟩
  by_cases he : x.epoch = r.view
  case' pos =>
    have heb : (x.epoch == r.view) = true := by rw [beq_iff_eq]; exact he
    have hF2 : F = r.log.length := by rw [hF]; exact if_pos he
    have hVF : Value.int .i64 (r.log.length : Int) = Value.int .i64 (F : Int) := by rw [hF2]
  case' neg =>
    have heb : (x.epoch == r.view) = false := by rw [beq_eq_false_iff_ne]; exact he
    have hF2 : F = 0 := by rw [hF]; exact if_neg he
    have hVF : Value.int .i64 0 = Value.int .i64 (F : Int) := by rw [hF2]; rfl
  all_goals
    have HVF := Lib.hid hVF
    have hFle : F ≤ r.log.length := by omega
    have HF := Lib.hid hF
    clear hVF hF hF2 he
    go_wp2_with ((with_reducible refine at_list ?_); (with_reducible refine cut_at 53 rfl ?_))
    refine Cut.go ?_
    rw [HVF.out]
    clear HVF heb r1
    by_cases hc : 1 ≤ x.epoch ∧ r.prom ≤ x.epoch ∧ x.epoch ≤ 1048576 ∧ x.from_ = (F : Int)
    case neg =>
      have hN : applyR r x.s = none := by rw [HA.out]; unfold viewR; rw [if_neg]; rintro ⟨h, _⟩; apply hc; rw [← HF.out] at h; exact h
      have HN := Lib.hid hN
      have hcc : x.epoch < 1 ∨ (¬ x.epoch < 1 ∧ x.epoch < r.prom) ∨ (¬ x.epoch < 1 ∧ ¬ x.epoch < r.prom ∧ (1048576 : Int) < x.epoch) ∨ (¬ x.epoch < 1 ∧ ¬ x.epoch < r.prom ∧ ¬ (1048576 : Int) < x.epoch ∧ x.from_ ≠ (F : Int)) := by omega
      clear hN hc
      rcases hcc with c1 | ⟨c1, c2⟩ | ⟨c1, c2, c3⟩ | ⟨c1, c2, c3, c4⟩
      case' inr.inr.inr => have c4b : (x.from_ != (F : Int)) = true := by rw [bne_iff_ne]; exact c4
      all_goals
        go_wp2_with ((with_reducible refine at_list ?_); (refine wpList_store_own rfl 24 _ _ rfl _ (rgv reg0 (none, 0, 0)) rfl rfl _ _ (E2) rg_info rfl (rgv_one _ _) ?_; intro w8 B8 g8))
        have hw8 := hw3.trans (below_grown g8 (by omega) hz3)
        apply ret_of
        · exact results_blk_tmp rfl _ _ _ _ _ _ rfl (B8) Try.underlying24 rfl rg_info _ rfl
        · exact ⟨rfl, DocP.no HN.out rfl hw8⟩
    case pos =>
      have HCC := Lib.hid hc
      obtain ⟨c1', c2', c3', c4'⟩ := hc
      have c1 : ¬ x.epoch < 1 := by omega
      have c2 : ¬ x.epoch < r.prom := by omega
      have c3 : ¬ (1048576 : Int) < x.epoch := by omega
      have c4 : (x.from_ != (F : Int)) = false := by rw [bne_eq_false_iff_eq]; exact c4'
      have cF : F ≤ cs := by omega
      have cF2 : (F : Int) ≤ (cs : Int) := by omega
      clear c1' c2' c3' c4'
      go_wp2_with fail
      clear c1 c2 c3 c4 x0 x2 x4 r0 r2 r3
      refine wp_region_p ([(0, true), (1, true), (2, true), (3, true), (5, true), (6, true), (4, false), (7, false), (8, true)]) (fun w' => Blk w' w.heap.size 24 (rgv r (As, r.log.length, cs)) ∧ Blk w' (w.heap.size + 1) 27 (rcv x)) (by kernel_rfl) rfl (by kernel_rfl) (by kernel_rfl) (⟨E0.drew, E1.drew⟩) rfl ?_
      intro KP RP TP hKP hTP hTP'
      simp only [pick, nth]
      go_wp2_with (first
        | (apply SeqP.skip; rfl; simp only [Act.put, List.setIfInBounds_toArray, List.set_cons_zero, List.set_cons_succ])
        | (apply SeqP.call; rfl; rfl; (intro w2 hw; have hw := hTP _ hw; ((have z2 := hw.1.cell 2; have z6 := hw.2.cell 6; simp [rcv] at z6; simp [rgv] at z2; rw [hes] at z6)); go_simp; exact ⟨rfl, rfl⟩); (intro w2 hw; have hw := hTP _ hw; ((have z2 := hw.1.cell 2; have z6 := hw.2.cell 6; simp [rcv] at z6; simp [rgv] at z2; rw [hes] at z6)); (first | fail)); simp only [Act.put, List.setIfInBounds_toArray, List.set_cons_zero, List.set_cons_succ])
        | (apply SeqP.pure; rfl; (intro w2 hw; have hw := hTP _ hw; ((have z2 := hw.1.cell 2; have z6 := hw.2.cell 6; simp [rcv] at z6; simp [rgv] at z2; rw [hes] at z6)); go_simp; with_reducible rfl); simp only [Act.put, List.setIfInBounds_toArray, List.set_cons_zero, List.set_cons_succ])
        | (apply SeqP.split; rfl; rfl; all_goals (intro hc; simp only [hc]; try simp only [beq_iff_eq, decide_eq_true_eq, beq_eq_false_iff_ne, decide_eq_false_iff_not, bne_iff_ne, ne_eq, Bool.not_eq_true', Bool.not_eq_false', Int.not_le, Int.not_lt, bne_eq_false_iff_eq, Bool.or_eq_true, Bool.and_eq_true, Bool.or_eq_false_iff] at hc)))
      apply SeqP.eff
      · rfl
      intro KE hKE
      have hQ : Below w3.heap.size w3 w3.drew := (Below.refl _ _).drew
      have hTl : (r.log.take F).length = F := by rw [List.length_take, Nat.min_eq_left hFle]
      obtain ⟨v, w4, hrun, hR4, hb⟩ := copy_nil (r.log.take F) As cs w3.drew ((HL3.out.1.keep hQ).2.2.2.take F) (by omega)
      rw [hTl] at hrun
      refine oper_app (by rfl) (by rfl) (by rfl) hrun ?_
      have hQ4 := below_trans hQ hb hQ.size
      refine hKE _ _ (hTP' _ ⟨E0.keep hQ4, E1.keep hQ4⟩) ?_
      clear hKE KE hrun hb
      go_wp2_with (first
        | (apply SeqP.skip; rfl; simp only [Act.put, List.setIfInBounds_toArray, List.set_cons_zero, List.set_cons_succ])
        | (apply SeqP.call; rfl; rfl; (intro w2 hw; have hw := hTP _ hw; ((have z2 := hw.1.cell 2; have z6 := hw.2.cell 6; simp [rcv] at z6; simp [rgv] at z2; rw [hes] at z6)); go_simp; exact ⟨rfl, rfl⟩); (intro w2 hw; have hw := hTP _ hw; ((have z2 := hw.1.cell 2; have z6 := hw.2.cell 6; simp [rcv] at z6; simp [rgv] at z2; rw [hes] at z6)); (first | fail)); simp only [Act.put, List.setIfInBounds_toArray, List.set_cons_zero, List.set_cons_succ])
        | (apply SeqP.pure; rfl; (intro w2 hw; have hw := hTP _ hw; ((have z2 := hw.1.cell 2; have z6 := hw.2.cell 6; simp [rcv] at z6; simp [rgv] at z2; rw [hes] at z6)); go_simp; with_reducible rfl); simp only [Act.put, List.setIfInBounds_toArray, List.set_cons_zero, List.set_cons_succ])
        | (apply SeqP.split; rfl; rfl; all_goals (intro hc; simp only [hc]; try simp only [beq_iff_eq, decide_eq_true_eq, beq_eq_false_iff_ne, decide_eq_false_iff_not, bne_iff_ne, ne_eq, Bool.not_eq_true', Bool.not_eq_false', Int.not_le, Int.not_lt, bne_eq_false_iff_eq, Bool.or_eq_true, Bool.and_eq_true, Bool.or_eq_false_iff] at hc)))
      apply SeqP.eff
      · rfl
      intro KE hKE
      obtain ⟨v2, w5, hrun, hR5, hg5, _⟩ := Row.app hR4 x.es.1 x.es.2.2 (HLE.out _ hQ4).2.2.2 (by omega) hQ4.size
      have hQ5 := below_own hQ4 hg5 hR4 hQ4.size
      refine oper_app (by rfl) (by rfl) (by rfl) hrun ?_
      refine hKE _ _ (hTP' _ ⟨E0.keep hQ5, E1.keep hQ5⟩) ?_
      clear hKE KE hrun hg5 hR4 hTl hQ4 hQ
      go_wp2_with (first
        | (apply SeqP.skip; rfl; simp only [Act.put, List.setIfInBounds_toArray, List.set_cons_zero, List.set_cons_succ])
        | (apply SeqP.call; rfl; rfl; (intro w2 hw; have hw := hTP _ hw; (skip); go_simp; exact ⟨rfl, rfl⟩); (intro w2 hw; have hw := hTP _ hw; (skip); (first | fail)); simp only [Act.put, List.setIfInBounds_toArray, List.set_cons_zero, List.set_cons_succ])
        | (apply SeqP.pure; rfl; (intro w2 hw; have hw := hTP _ hw; (skip); go_simp; with_reducible rfl); simp only [Act.put, List.setIfInBounds_toArray, List.set_cons_zero, List.set_cons_succ])
        | (apply SeqP.split; rfl; rfl; all_goals (intro hc; simp only [hc]; try simp only [beq_iff_eq, decide_eq_true_eq, beq_eq_false_iff_ne, decide_eq_false_iff_not, bne_iff_ne, ne_eq, Bool.not_eq_true', Bool.not_eq_false', Int.not_le, Int.not_lt, bne_eq_false_iff_eq, Bool.or_eq_true, Bool.and_eq_true, Bool.or_eq_false_iff] at hc)))
      apply SeqP.nil
      refine hKP _ _ (hTP' _ (⟨E0.keep hQ5, E1.keep hQ5⟩)) ?_
      clear hKP hTP hTP'
      have hLl : r.log.take F ++ x.ents = logR r x.s := by unfold logR; rw [← HF.out]; rfl
      have hL5 : (logR r x.s).length ≤ 2000 := by rw [← hLl, List.length_append, List.length_take]; omega
      rw [hLl] at hR5
      obtain ⟨Al, cl, rfl, kl1, kl2, EL⟩ := hR5.form
      obtain ⟨L, hL⟩ : ∃ L, L = logR r x.s := ⟨_, rfl⟩
      rw [← hL] at hL5 kl1 EL ⊢
      have HLL := Lib.hid hL
      have P0 := E0.keep hQ5
      have P1 := E1.keep hQ5
      have P2 := E2.keep hQ5
      have PG := G3.keep hQ5
      have S5 := Lib.hid (And.intro (HL3.out.1.keep hQ5) (And.intro kl1 (And.intro kl2 EL)))
      have hw5 := below_trans hw3 hQ5 hz3
      have hz5 := hw5.size
      clear hL hLl hR5 EL hQ5 E0 E1 E2 G3 hw3 HS HL3 HLE hz3 l3 lG lE1 lE0 cF cF2 hFle hes
      try clear w3
      have x2 := P1.cell 2
      have r3 := P0.cell 3
      simp [rcv] at x2
      simp [rgv] at r3
      rw [HC.out] at r3
      have lP1 := P1.lt
      have lP0 := P0.lt
      go_wp2_with fail
      refine (rlog_any L Al cl x.epoch _ S5.out.2.2.2 (by omega)).mono ?_
      rintro e w6 ⟨rfl, hb⟩
      have hw6 := below_trans hw5 hb hz5
      have Q0 := P0.keep hb
      have Q1 := P1.keep hb
      have Q2 := P2.keep hb
      have QG := PG.keep hb
      have S6 := Lib.hid (And.intro (S5.out.1.keep hb) (And.intro S5.out.2.1 (And.intro S5.out.2.2.1 ((S5.out.2.2.2.below hb).more hb.size))))
      have hz6 := hw6.size
      clear hb P0 P1 P2 PG S5 hw5 hz5 x2 r3 lP1 lP0
      try clear w5
      have x2 := Q1.cell 2
      have r3 := Q0.cell 3
      simp [rcv] at x2
      simp [rgv] at r3
      rw [HC.out] at r3
      have lQ1 := Q1.lt
      have lQ0 := Q0.lt
      have hview : ∀ b : Bool, b = false → (okLog L x.epoch = false ∨ ¬ r.log.take C <+: L) → applyR r x.s = none := by
        intro b hb h
        rw [HA.out]
        unfold viewR
        rw [if_neg]
        rintro ⟨_, h1, h2⟩
        rw [← HLL.out] at h1 h2
        rcases h with h | h
        · have h1' : okLog L x.epoch = true := h1
          rw [h] at h1'; cases h1'
        · apply h; rw [HC.out] at h2; exact h2
      have HV := Lib.hid hview
      clear hview
      cases hok : okLog L x.epoch with
      | false =>
        have HN := Lib.hid (HV.out false rfl (.inl hok))
        clear hok
        go_wp2_with ((with_reducible refine at_list ?_); (refine wpList_store_own rfl 24 _ _ rfl _ (rgv reg0 (none, 0, 0)) rfl rfl _ _ (Q2) rg_info rfl (rgv_one _ _) ?_; intro w8 B8 g8))
        have hw8 := hw6.trans (below_grown g8 (by omega) hz6)
        apply ret_of
        · exact results_blk_tmp rfl _ _ _ _ _ _ rfl (B8) Try.underlying24 rfl rg_info _ rfl
        · exact ⟨rfl, DocP.no HN.out rfl hw8⟩
      | true =>
      have HOK := Lib.hid hok
      clear hok
      by_cases hlc : L.length < C
      case pos =>
        have hlc2 : (L.length : Int) < (C : Int) := by omega
        have HN := Lib.hid (HV.out false rfl (.inr (fun h => by have := h.length_le; rw [List.length_take] at this; omega)))
        clear hlc
        go_wp2_with ((with_reducible refine at_list ?_); (refine wpList_store_own rfl 24 _ _ rfl _ (rgv reg0 (none, 0, 0)) rfl rfl _ _ (Q2) rg_info rfl (rgv_one _ _) ?_; intro w8 B8 g8))
        have hw8 := hw6.trans (below_grown g8 (by omega) hz6)
        apply ret_of
        · exact results_blk_tmp rfl _ _ _ _ _ _ rfl (B8) Try.underlying24 rfl rg_info _ rfl
        · exact ⟨rfl, DocP.no HN.out rfl hw8⟩
      have hlc2 : ¬ (L.length : Int) < (C : Int) := by omega
      have HE2 := Lib.hid (And.intro S6.out.2.2.2 S6.out.1.2.2.2)
      go_wp2_with fail
      go_loopg [9] C (fun k i wr => ∃ j : Nat, k = C - j ∧ j ≤ C ∧ i = .int .i64 j ∧ Below w6.heap.size w6 wr ∧ L.take j = r.log.take j)
      case atStart => exact ⟨0, rfl, by omega, rfl, Below.refl _ _, by simp⟩
      case round =>
        obtain ⟨j, hk, hj, rfl, hwr, ht⟩ := hrel
        have AA : Aside (gk = C - j ∧ L.take j = r.log.take j) := ⟨hk, ht⟩
        clear hk ht x2 r3
        have r3 := (Q0.keep hwr).cell 3
        simp [rgv] at r3
        rw [HC.out] at r3
        by_cases hlt : j < C
        · have hjl : j < L.length := by omega
          have hjm : j < r.log.length := by omega
          obtain ⟨b1, o1, ex, rfl, hx, FA⟩ := HE2.out.1.at_ hjl
          obtain ⟨b2, o2, ey, rfl, hy, FB⟩ := HE2.out.2.at_ hjm
          have Q0' := Q0.keep hwr
          have gk1 : j < cs := by omega
          go_wp2_with fail
          refine wp_region_p ([(0, true), (1, true), (2, true), (3, true), (4, true), (5, true), (6, true), (7, true), (8, true), (9, true)]) (fun w' => Below w6.heap.size w6 w') (by kernel_rfl) rfl (by kernel_rfl) (by kernel_rfl) (hwr.drew) rfl ?_
          intro KP RP TP hKP hTP hTP'
          simp only [pick, nth]
          go_wp2_with (first
            | (apply SeqP.skip; rfl; simp only [Act.put, List.setIfInBounds_toArray, List.set_cons_zero, List.set_cons_succ])
            | (apply SeqP.aggbin; (with_reducible rfl); (with_reducible exact Try.eqGuardType44); rfl; rfl; rfl; (exact (fun w => neq_ent w ex ey)); simp only [Act.put, List.setIfInBounds_toArray, List.set_cons_zero, List.set_cons_succ])
            | (apply SeqP.call; rfl; rfl; (intro w2 hw; have hw := hTP _ hw; ((obtain ⟨p0, p1, p2, p3, p4, p5⟩ := FA _ hw; obtain ⟨q0, q1, q2, q3, q4, q5⟩ := FB _ hw; have z2 := (Q0.keep hw).cell 2; simp [rgv] at z2)); go_simp; exact ⟨rfl, rfl⟩); (intro w2 hw; have hw := hTP _ hw; ((obtain ⟨p0, p1, p2, p3, p4, p5⟩ := FA _ hw; obtain ⟨q0, q1, q2, q3, q4, q5⟩ := FB _ hw; have z2 := (Q0.keep hw).cell 2; simp [rgv] at z2)); (first | fail)); simp only [Act.put, List.setIfInBounds_toArray, List.set_cons_zero, List.set_cons_succ])
            | (apply SeqP.pure; rfl; (intro w2 hw; have hw := hTP _ hw; ((obtain ⟨p0, p1, p2, p3, p4, p5⟩ := FA _ hw; obtain ⟨q0, q1, q2, q3, q4, q5⟩ := FB _ hw; have z2 := (Q0.keep hw).cell 2; simp [rgv] at z2)); go_simp; with_reducible rfl); simp only [Act.put, List.setIfInBounds_toArray, List.set_cons_zero, List.set_cons_succ])
            | (apply SeqP.split; rfl; rfl; all_goals (intro hc; simp only [hc]; try simp only [beq_iff_eq, decide_eq_true_eq, beq_eq_false_iff_ne, decide_eq_false_iff_not, bne_iff_ne, ne_eq, Bool.not_eq_true', Bool.not_eq_false', Int.not_le, Int.not_lt, bne_eq_false_iff_eq, Bool.or_eq_true, Bool.and_eq_true, Bool.or_eq_false_iff] at hc)))
          apply SeqP.nil
          refine hKP _ _ (hTP' _ hwr.drew) ?_
          clear hKP hTP hTP' FA FB
          have hw7 := below_trans hw6 hwr.drew hz6
          have U2 := Q2.keep hwr.drew
          have lU := U2.lt
          by_cases hxy : ex = ey
          · have hxy2 : ¬ ex ≠ ey := fun h => h hxy
            go_wp2_with fail
            go_roundg (C - (j + 1))
            case measure => have hkk := AA.out.1; omega
            case rel =>
              subst hxy
              exact ⟨j + 1, rfl, by omega, by go_num, hwr.drew, take_more AA.out.2 hx.out hy.out⟩
          · have HN := Lib.hid (HV.out false rfl (.inr (fun h => by
              have h2 := List.prefix_iff_eq_take.1 h
              rw [List.length_take, Nat.min_eq_left hCle] at h2
              have h3 : (r.log.take C)[j]? = (L.take C)[j]? := by rw [h2]
              rw [List.getElem?_take_of_lt hlt, List.getElem?_take_of_lt hlt, hx.out, hy.out] at h3
              exact hxy (Option.some.inj h3).symm)))
            have hxy2 : ex ≠ ey := hxy
            go_wp2_with ((with_reducible refine at_list ?_); (refine wpList_store_own rfl 24 _ _ rfl _ (rgv reg0 (none, 0, 0)) rfl rfl _ _ (U2) rg_info rfl (rgv_one _ _) ?_; intro w8 B8 g8))
            have hw8 := hw7.trans (below_grown g8 (by omega) hw7.size)
            apply ret_of
            · exact results_blk_tmp rfl _ _ _ _ _ _ rfl (B8) Try.underlying24 rfl rg_info _ rfl
            · exact ⟨rfl, DocP.no HN.out rfl hw8⟩
        · obtain rfl : j = C := by omega
          have hpre : r.log.take j <+: L := by
            have h := AA.out.2
            rw [← h]
            exact List.take_prefix _ _
          have hY : applyR r x.s = some ⟨x.epoch, x.epoch, L, r.com⟩ := by
            rw [HA.out]
            unfold viewR
            rw [if_pos]
            · rw [HLL.out]; rfl
            · obtain ⟨h1, h2, h3, h4⟩ := HCC.out
              refine ⟨⟨h1, h2, h3, by rw [← HF.out]; exact h4⟩, by rw [← HLL.out]; exact HOK.out, ?_⟩
              rw [← HLL.out, HC.out]
              exact hpre
          have HY := Lib.hid hY
          clear hY hpre HV
          have U0 := Q0.keep hwr
          have U1 := Q1.keep hwr
          have U2 := Q2.keep hwr
          have UG := QG.keep hwr
          have SL := Lib.hid (show LogAt wr wr.heap.size (Al, L.length, cl) L from ⟨rfl, S6.out.2.1, S6.out.2.2.1, (S6.out.2.2.2.below hwr).more hwr.size⟩)
          have hw7 := below_trans hw6 hwr hz6
          have hz7 := hw7.size
          go_wp2_with fail
          clear Q0 Q1 Q2 QG S6 HE2 hw6 hwr hz6 lQ0 lQ1
          have ne : ∀ m, m ≠ g → some m ≠ some g := fun m h e => h (Option.some.inj e)
          have nz := ne (w.heap.size + 1) (by omega)
          refine wp_region_p ([(0, true), (1, true), (2, true), (3, true), (4, true), (5, true), (6, false), (7, true), (8, false), (9, true), (10, false)]) (fun w' => Blk w' (w.heap.size + 1) 27 (rcv x)) (by kernel_rfl) rfl (by kernel_rfl) (by kernel_rfl) (U1.drew) rfl ?_
          intro KP RP TP hKP hTP hTP'
          simp only [pick, nth]
          go_wp2_with (first
            | (apply SeqP.skip; rfl; simp only [Act.put, List.setIfInBounds_toArray, List.set_cons_zero, List.set_cons_succ])
            | (apply SeqP.call; rfl; rfl; (intro w2 hw; have hw := hTP _ hw; ((have z2 := hw.cell 2; simp [rcv] at z2)); go_simp; exact ⟨rfl, rfl⟩); (intro w2 hw; have hw := hTP _ hw; ((have z2 := hw.cell 2; simp [rcv] at z2)); (first | fail)); simp only [Act.put, List.setIfInBounds_toArray, List.set_cons_zero, List.set_cons_succ])
            | (apply SeqP.pure; rfl; (intro w2 hw; have hw := hTP _ hw; ((have z2 := hw.cell 2; simp [rcv] at z2)); go_simp; with_reducible rfl); simp only [Act.put, List.setIfInBounds_toArray, List.set_cons_zero, List.set_cons_succ])
            | (apply SeqP.split; rfl; rfl; all_goals (intro hc; simp only [hc]; try simp only [beq_iff_eq, decide_eq_true_eq, beq_eq_false_iff_ne, decide_eq_false_iff_not, bne_iff_ne, ne_eq, Bool.not_eq_true', Bool.not_eq_false', Int.not_le, Int.not_lt, bne_eq_false_iff_eq, Bool.or_eq_true, Bool.and_eq_true, Bool.or_eq_false_iff] at hc)))
          have J0 := U0.drew
          have J1 := U1.drew
          have J2 := U2.drew
          have JG := UG.drew
          have SD := SL.out.keep (Below.refl _ _).drew
          have hwd := hw7.drew
          generalize wr.drew = wa at J0 J1 J2 JG SD hwd ⊢
          clear U0 U1 U2 UG SL hw7 hz7
          try clear wr
          apply SeqP.eff
          · rfl
          intro KE hKE
          have fr := JG.frozen
          have y0 := JG.cell 0
          have y1 := JG.cell 1
          have y2 := JG.cell 2
          have lG := JG.lt
          simp [rgv] at y0 y1 y2
          go_wp2_with fail
          refine eff_abs hKE (fun W' => wa.grownBy W' (some g) ∧ Blk W' g 24 (rgv ⟨x.epoch, r.view, r.log, r.com⟩ s)) ⟨by (repeat (first | with_reducible apply only_drew | with_reducible refine only_setCell ?_ (by first | exact Or.inl rfl | (right; simp; done) | (right; simp; omega) | (right; omega)) _ | with_reducible refine only_alloc ?_ _ | with_reducible exact World.grownBy.refl _ _ | with_reducible assumption)), (JG.set 0 (.int .i64 x.epoch)).of_eq rfl⟩ (fun W' h => hTP' _ (J1.grown h.1 nz)) ?_
          rintro wb ⟨gb, JGb⟩
          have J0b := J0.grown gb (ne _ (by omega))
          have J1b := J1.grown gb nz
          have J2b := J2.grown gb (ne _ (by omega))
          have SDb := SD.stored JG (by simp [rgv]) gb
          have hwdb := hwd.trans (below_grown gb (by omega) hwd.size)
          clear fr y0 y1 y2 lG hKE KE J0 J1 J2 JG SD hwd gb
          try clear wa
          obtain ⟨wa, rfl⟩ : ∃ z, z = wb := ⟨_, rfl⟩
          have J0 := J0b
          have J1 := J1b
          have J2 := J2b
          have JG := JGb
          have SD := SDb
          have hwd := hwdb
          clear J0b J1b J2b JGb SDb hwdb
          go_wp2_with (first
            | (apply SeqP.skip; rfl; simp only [Act.put, List.setIfInBounds_toArray, List.set_cons_zero, List.set_cons_succ])
            | (apply SeqP.call; rfl; rfl; (intro w2 hw; have hw := hTP _ hw; ((have z2 := hw.cell 2; simp [rcv] at z2)); go_simp; exact ⟨rfl, rfl⟩); (intro w2 hw; have hw := hTP _ hw; ((have z2 := hw.cell 2; simp [rcv] at z2)); (first | fail)); simp only [Act.put, List.setIfInBounds_toArray, List.set_cons_zero, List.set_cons_succ])
            | (apply SeqP.pure; rfl; (intro w2 hw; have hw := hTP _ hw; ((have z2 := hw.cell 2; simp [rcv] at z2)); go_simp; with_reducible rfl); simp only [Act.put, List.setIfInBounds_toArray, List.set_cons_zero, List.set_cons_succ])
            | (apply SeqP.split; rfl; rfl; all_goals (intro hc; simp only [hc]; try simp only [beq_iff_eq, decide_eq_true_eq, beq_eq_false_iff_ne, decide_eq_false_iff_not, bne_iff_ne, ne_eq, Bool.not_eq_true', Bool.not_eq_false', Int.not_le, Int.not_lt, bne_eq_false_iff_eq, Bool.or_eq_true, Bool.and_eq_true, Bool.or_eq_false_iff] at hc)))
          apply SeqP.eff
          · rfl
          intro KE hKE
          have fr := JG.frozen
          have y0 := JG.cell 0
          have y1 := JG.cell 1
          have y2 := JG.cell 2
          have lG := JG.lt
          simp [rgv] at y0 y1 y2
          go_wp2_with fail
          refine eff_abs hKE (fun W' => wa.grownBy W' (some g) ∧ Blk W' g 24 (rgv ⟨x.epoch, x.epoch, r.log, r.com⟩ s)) ⟨by (repeat (first | with_reducible apply only_drew | with_reducible refine only_setCell ?_ (by first | exact Or.inl rfl | (right; simp; done) | (right; simp; omega) | (right; omega)) _ | with_reducible refine only_alloc ?_ _ | with_reducible exact World.grownBy.refl _ _ | with_reducible assumption)), (JG.set 1 (.int .i64 x.epoch)).of_eq rfl⟩ (fun W' h => hTP' _ (J1.grown h.1 nz)) ?_
          rintro wb ⟨gb, JGb⟩
          have J0b := J0.grown gb (ne _ (by omega))
          have J1b := J1.grown gb nz
          have J2b := J2.grown gb (ne _ (by omega))
          have SDb := SD.stored JG (by simp [rgv]) gb
          have hwdb := hwd.trans (below_grown gb (by omega) hwd.size)
          clear fr y0 y1 y2 lG hKE KE J0 J1 J2 JG SD hwd gb
          try clear wa
          obtain ⟨wa, rfl⟩ : ∃ z, z = wb := ⟨_, rfl⟩
          have J0 := J0b
          have J1 := J1b
          have J2 := J2b
          have JG := JGb
          have SD := SDb
          have hwd := hwdb
          clear J0b J1b J2b JGb SDb hwdb
          go_wp2_with (first
            | (apply SeqP.skip; rfl; simp only [Act.put, List.setIfInBounds_toArray, List.set_cons_zero, List.set_cons_succ])
            | (apply SeqP.call; rfl; rfl; (intro w2 hw; have hw := hTP _ hw; ((have z2 := hw.cell 2; simp [rcv] at z2)); go_simp; exact ⟨rfl, rfl⟩); (intro w2 hw; have hw := hTP _ hw; ((have z2 := hw.cell 2; simp [rcv] at z2)); (first | fail)); simp only [Act.put, List.setIfInBounds_toArray, List.set_cons_zero, List.set_cons_succ])
            | (apply SeqP.pure; rfl; (intro w2 hw; have hw := hTP _ hw; ((have z2 := hw.cell 2; simp [rcv] at z2)); go_simp; with_reducible rfl); simp only [Act.put, List.setIfInBounds_toArray, List.set_cons_zero, List.set_cons_succ])
            | (apply SeqP.split; rfl; rfl; all_goals (intro hc; simp only [hc]; try simp only [beq_iff_eq, decide_eq_true_eq, beq_eq_false_iff_ne, decide_eq_false_iff_not, bne_iff_ne, ne_eq, Bool.not_eq_true', Bool.not_eq_false', Int.not_le, Int.not_lt, bne_eq_false_iff_eq, Bool.or_eq_true, Bool.and_eq_true, Bool.or_eq_false_iff] at hc)))
          apply SeqP.eff
          · rfl
          intro KE hKE
          have fr := JG.frozen
          have y0 := JG.cell 0
          have y1 := JG.cell 1
          have y2 := JG.cell 2
          have lG := JG.lt
          simp [rgv] at y0 y1 y2
          go_wp2_with fail
          refine eff_abs hKE (fun W' => wa.grownBy W' (some g) ∧ Blk W' g 24 (rgv ⟨x.epoch, x.epoch, L, r.com⟩ (Al, L.length, cl))) ⟨by (repeat (first | with_reducible apply only_drew | with_reducible refine only_setCell ?_ (by first | exact Or.inl rfl | (right; simp; done) | (right; simp; omega) | (right; omega)) _ | with_reducible refine only_alloc ?_ _ | with_reducible exact World.grownBy.refl _ _ | with_reducible assumption)), (JG.set 2 (.slice Al L.length cl)).of_eq rfl⟩ (fun W' h => hTP' _ (J1.grown h.1 nz)) ?_
          rintro wb ⟨gb, JGb⟩
          have J0b := J0.grown gb (ne _ (by omega))
          have J1b := J1.grown gb nz
          have J2b := J2.grown gb (ne _ (by omega))
          have SDb := SD.stored JG (by simp [rgv]) gb
          have hwdb := hwd.trans (below_grown gb (by omega) hwd.size)
          clear fr y0 y1 y2 lG hKE KE J0 J1 J2 JG SD hwd gb
          try clear wa
          obtain ⟨wa, rfl⟩ : ∃ z, z = wb := ⟨_, rfl⟩
          have J0 := J0b
          have J1 := J1b
          have J2 := J2b
          have JG := JGb
          have SD := SDb
          have hwd := hwdb
          clear J0b J1b J2b JGb SDb hwdb
          go_wp2_with (first
            | (apply SeqP.skip; rfl; simp only [Act.put, List.setIfInBounds_toArray, List.set_cons_zero, List.set_cons_succ])
            | (apply SeqP.call; rfl; rfl; (intro w2 hw; have hw := hTP _ hw; ((have z2 := hw.cell 2; simp [rcv] at z2)); go_simp; exact ⟨rfl, rfl⟩); (intro w2 hw; have hw := hTP _ hw; ((have z2 := hw.cell 2; simp [rcv] at z2)); (first | fail)); simp only [Act.put, List.setIfInBounds_toArray, List.set_cons_zero, List.set_cons_succ])
            | (apply SeqP.pure; rfl; (intro w2 hw; have hw := hTP _ hw; ((have z2 := hw.cell 2; simp [rcv] at z2)); go_simp; with_reducible rfl); simp only [Act.put, List.setIfInBounds_toArray, List.set_cons_zero, List.set_cons_succ])
            | (apply SeqP.split; rfl; rfl; all_goals (intro hc; simp only [hc]; try simp only [beq_iff_eq, decide_eq_true_eq, beq_eq_false_iff_ne, decide_eq_false_iff_not, bne_iff_ne, ne_eq, Bool.not_eq_true', Bool.not_eq_false', Int.not_le, Int.not_lt, bne_eq_false_iff_eq, Bool.or_eq_true, Bool.and_eq_true, Bool.or_eq_false_iff] at hc)))
          apply SeqP.nil
          refine hKP _ _ (hTP' _ (J1)) ?_
          clear hKP hTP hTP'
          go_wp2_with ((with_reducible refine at_list ?_); first | refine wpList_load_blk rfl 24 _ rfl _ rfl _ _ _ (JG) Try.underlying24 rfl rg_info ?_ | (refine wpList_store_own rfl 24 _ _ rfl _ (rgv _ (Al, L.length, cl)) rfl rfl _ _ (J2) rg_info rfl (rgv_one _ _) ?_; intro w8 B8 g8))
          have hw8 := hwd.trans (below_grown g8 (by omega) hwd.size)
          have SD8 := SD.stored J2 (by simp [rgv]) g8
          apply ret_of
          · exact results_blk_tmp rfl _ _ _ _ _ _ rfl (B8) Try.underlying24 rfl rg_info _ rfl
          · exact ⟨rfl, DocP.yes HY.out (Al, L.length, cl) rfl SD8 hw8⟩
end Go.Proofs.Ytbicefilfhcgoaa
