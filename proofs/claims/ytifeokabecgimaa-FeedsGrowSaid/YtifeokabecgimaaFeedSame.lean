/-
  The walks over SameItem and SameItems, of the same ones.
-/
import Derived.Test.YtifeokabecgimaaFeedSpec
import Derived.Test.YtifeokabecgimaaMidOps
import Derived.Test.YtifeokabecgimaaSeqP
import Derived.Deep.LoopGhost
import Derived.Laws.StructEq
set_option linter.unusedSimpArgs false
set_option linter.unusedVariables false
set_option maxRecDepth 100000
namespace Go.Proofs.Ytifeokabecgimaa
open Go Go.RowKit Go.Sq Go.Wd Go.Arch

theorem neq_spt (w : World) (p : Spt) : (binOp .neq 71 (.agg #[.int .i64 p.1, .int .i64 p.2]) (.agg #[.int .i64 p.1, .int .i64 p.2])).run Try.prog w = .ok (.bool false) w := by
  have g0 := Try.underlying71
  simp [go_sem]
theorem neq_ord22 (w : World) (e : Ord) : (binOp .neq 43 (.agg (ordv e).toArray) (.agg (ordv e).toArray)).run Try.prog w = .ok (.bool false) w := by
  have g0 := Try.underlying43
  simp [ordv, go_sem]
theorem neq_ev22 (w : World) (k a : Int) : (binOp .neq 35 (.agg #[.int .i64 k, .int .i64 a]) (.agg #[.int .i64 k, .int .i64 a])).run Try.prog w = .ok (.bool false) w := by
  have g0 := Try.underlying35
  simp [go_sem]

set_option maxHeartbeats 4000000 in
theorem sameitem_any (x : IA) (s1 s2 : Sl) (w : World) (h1 : EvC w none s1 x.2.2.2.2) (h2 : EvC w none s2 x.2.2.2.2) :
    Calls Try.prog 42 #[.agg (iav (x, s1)).toArray, .agg (iav (x, s2)).toArray] w fun e w' => e = .returned (.bool true) ∧ Below w.heap.size w w' := by
  have hz : Below w.heap.size w ((w.alloc (.cells (iav (x, s1)).toArray 73)).alloc (.cells (iav (x, s2)).toArray 73)) := ((Below.refl _ _).alloc (Nat.le_refl _) _).alloc (by simp) _
  have B1 := (Blk.new w 73 (iav (x, s1))).alloc (.cells (iav (x, s2)).toArray 73)
  have B2 := Blk.new1 w (.cells (iav (x, s1)).toArray 73) 73 (iav (x, s2))
  have HH := Lib.hid (And.intro hz (And.intro B1 (And.intro B2 (And.intro (h1.pure hz) (h2.pure hz)))))
  clear hz h1 h2 B1 B2
  obtain ⟨⟨s, i⟩, o, oc, ov, evs⟩ := x
  dsimp only at HH
  go_enter Try.func42, Try.ntmps42
  go_wp2_with ((with_reducible refine cut_at 7 rfl ?_))
  refine Cut.go ?_
  generalize ((w.alloc (.cells (iav (((s, i), o, oc, ov, evs), s1)).toArray 73)).alloc (.cells (iav (((s, i), o, oc, ov, evs), s2)).toArray 73)) = w2 at HH ⊢
  have hcc : (oc != oc) = false := by simp
  have hcv : (ov != ov) = false := by simp
  have C : ∀ k, k < 10 → w2.cell? ⟨w.heap.size, k, none⟩ = (iav (((s, i), o, oc, ov, evs), s1))[k]? := fun k _ => HH.out.2.1.cell k
  have D : ∀ k, k < 10 → w2.cell? ⟨w.heap.size + 1, k, none⟩ = (iav (((s, i), o, oc, ov, evs), s2))[k]? := fun k _ => HH.out.2.2.1.cell k
  have c0 := C 0 (by omega)
  have c1 := C 1 (by omega)
  have c2 := C 2 (by omega)
  have c3 := C 3 (by omega)
  have c4 := C 4 (by omega)
  have c5 := C 5 (by omega)
  have c6 := C 6 (by omega)
  have c7 := C 7 (by omega)
  have c8 := C 8 (by omega)
  have c9 := C 9 (by omega)
  have d0 := D 0 (by omega)
  have d1 := D 1 (by omega)
  have d2 := D 2 (by omega)
  have d3 := D 3 (by omega)
  have d4 := D 4 (by omega)
  have d5 := D 5 (by omega)
  have d6 := D 6 (by omega)
  have d7 := D 7 (by omega)
  have d8 := D 8 (by omega)
  have d9 := D 9 (by omega)
  clear C D
  simp only [iav, List.getElem?_cons_succ, List.getElem?_cons_zero] at c0 c1 c2 c3 c4 c5 c6 c7 c8 c9 d0 d1 d2 d3 d4 d5 d6 d7 d8 d9
  rcases HH.out.2.2.2.1 with ⟨he, rfl⟩ | ⟨g1, k1, a, b, rfl, he, u1, u2, u3, _, u4, u5⟩
  case' inl =>
    rcases HH.out.2.2.2.2 with ⟨_, rfl⟩ | ⟨g2, k2, a', b', rfl, he', _⟩
    case' inr => rw [he] at he'; cases he'
    dsimp only at c9 d9
    go_wp2_with ((with_reducible refine at_list ?_); first | (refine wpList_agg_g rfl rfl Try.eqGuardType71 rfl rfl (neq_spt _ (s, i)) ?_) | (refine wpList_agg_g rfl rfl Try.eqGuardType43 rfl rfl (neq_ord22 _ o) ?_))
    refine wp_loop_rounds 1 ?_
    rw [rounds_succ]
    go_wp2_with fail
    go_ret
    exact ⟨rfl, HH.out.1⟩
  case' inr =>
    rcases HH.out.2.2.2.2 with ⟨he', _⟩ | ⟨g2, k2, a', b', rfl, he', v1, v2, v3, _, v4, v5⟩
    case' inl => rw [he] at he'; cases he'
    rw [he] at he'
    cases he'
    dsimp only at c9 d9
    go_wp2_with ((with_reducible refine at_list ?_); first | (refine wpList_agg_g rfl rfl Try.eqGuardType71 rfl rfl (neq_spt _ (s, i)) ?_) | (refine wpList_agg_g rfl rfl Try.eqGuardType43 rfl rfl (neq_ord22 _ o) ?_))
    refine wp_loop_rounds 2 ?_
    rw [rounds_succ]
    go_wp2_with fail
    refine wp_region_p ([(0, true), (1, true), (2, true), (3, true), (4, true), (5, true), (6, true), (7, true), (8, true), (9, true), (10, true), (11, true), (12, true)]) (fun w' => w' = w2.drew) (by kernel_rfl) rfl (by kernel_rfl) (by kernel_rfl) (rfl) rfl ?_
    intro KP RP TP hKP hTP hTP'
    simp only [pick, nth]
    go_wp2_with (first
      | (apply SeqP.skip; rfl; simp only [Act.put, List.setIfInBounds_toArray, List.set_cons_zero, List.set_cons_succ])
      | (apply SeqP.aggbin; (with_reducible rfl); (with_reducible exact Try.eqGuardType35); rfl; rfl; rfl; (exact (fun w => neq_ev22 w a b)); simp only [Act.put, List.setIfInBounds_toArray, List.set_cons_zero, List.set_cons_succ])
      | (apply SeqP.call; rfl; rfl; (intro w2 hw; have hw := hTP _ hw; (subst hw); go_simp; exact ⟨rfl, rfl⟩); (intro w2 hw; have hw := hTP _ hw; (subst hw); (first | fail)); simp only [Act.put, List.setIfInBounds_toArray, List.set_cons_zero, List.set_cons_succ])
      | (apply SeqP.pure; rfl; (intro w2 hw; have hw := hTP _ hw; (subst hw); go_simp; with_reducible rfl); simp only [Act.put, List.setIfInBounds_toArray, List.set_cons_zero, List.set_cons_succ])
      | (apply SeqP.split; rfl; rfl; all_goals (intro hc; simp only [hc]; try simp only [beq_iff_eq, decide_eq_true_eq, beq_eq_false_iff_ne, decide_eq_false_iff_not, bne_iff_ne, ne_eq, Bool.not_eq_true', Bool.not_eq_false', Int.not_le, Int.not_lt, bne_eq_false_iff_eq, Bool.or_eq_true, Bool.and_eq_true, Bool.or_eq_false_iff] at hc)))
    apply SeqP.nil
    refine hKP _ _ (hTP' _ (rfl)) ?_
    clear hKP hTP hTP'
    go_wp2_with fail
    rw [rounds_succ]
    go_wp2_with fail
    go_ret
    exact ⟨rfl, HH.out.1.drew⟩

/-- The ten cells of an item. -/
theorem it_cells {w : World} {b o : Nat} {x : IA} {sl : Sl} (h : Gr.At itemE w b o (x, sl)) : w.cell? ⟨b, o, none⟩ = some (.int .i64 x.1.1) ∧ w.cell? ⟨b, o + 1, none⟩ = some (.int .i64 x.1.2) ∧ w.cell? ⟨b, o + 2, none⟩ = some (.int .i64 x.2.1.id) ∧
    w.cell? ⟨b, o + 3, none⟩ = some (.int .i64 x.2.1.stream) ∧ w.cell? ⟨b, o + 4, none⟩ = some (.int .i64 x.2.1.expect) ∧ w.cell? ⟨b, o + 5, none⟩ = some (.int .i64 x.2.1.kind) ∧ w.cell? ⟨b, o + 6, none⟩ = some (.int .i64 x.2.1.arg) ∧
    w.cell? ⟨b, o + 7, none⟩ = some (.int .i64 x.2.2.1) ∧ w.cell? ⟨b, o + 8, none⟩ = some (.int .i64 x.2.2.2.1) ∧ w.cell? ⟨b, o + 9, none⟩ = some (.slice sl.1 sl.2.1 sl.2.2) :=
  ⟨h 0 (by decide), h 1 (by decide), h 2 (by decide), h 3 (by decide), h 4 (by decide), h 5 (by decide), h 6 (by decide), h 7 (by decide), h 8 (by decide), h 9 (by decide)⟩

set_option maxHeartbeats 4000000 in
theorem sameitems_any (l : List IA) (A B : Option Addr) (c d : Nat) (w : World) (ha : ItsR w A l) (hb : ItsR w B l) (hl : l.length ≤ 9223372036854775807) :
    Calls Try.prog 29 #[.slice A l.length c, .slice B l.length d] w fun e w' => e = .returned (.bool true) ∧ Below w.heap.size w w' := by
  have hw : Below w.heap.size w w := Below.refl _ _
  have H := Lib.hid (And.intro ha hb)
  clear ha hb
  have hll : ((l.length : Int) != (l.length : Int)) = false := by simp
  go_enter Try.func29, Try.ntmps29
  go_wp2_with fail
  go_loopg [5] l.length (fun k i wr => ∃ j : Nat, k = l.length - j ∧ j ≤ l.length ∧ i = .int .i64 j ∧ Below w.heap.size w wr)
  case atStart => exact ⟨0, rfl, by omega, rfl, hw⟩
  case round =>
    clear hw
    obtain ⟨j, hk, hj, rfl, hwr⟩ := hrel
    have AA : Aside (gk = l.length - j) := hk
    clear hk
    by_cases hlt : j < l.length
    · obtain ⟨b1, o1, x, s1, rfl, hx, _, e1, FA⟩ := H.out.1.at_ hlt
      obtain ⟨b2, o2, y, s2, rfl, hy, _, e2, FB⟩ := H.out.2.at_ hlt
      obtain rfl : x = y := Option.some.inj (hx.out.symm.trans hy.out)
      have HE := Lib.hid (And.intro e1 e2)
      clear hx hy e1 e2
      go_wp2_with fail
      refine wp_region_p ([(0, true), (1, true), (2, true), (3, true), (4, true), (5, true), (6, true), (7, true), (8, false), (9, true)]) (fun w' => Below w.heap.size w w') (by kernel_rfl) rfl (by kernel_rfl) (by kernel_rfl) (hwr.drew) rfl ?_
      intro KP RP TP hKP hTP hTP'
      simp only [pick, nth]
      go_wp2_with (first
        | (apply SeqP.skip; rfl; simp only [Act.put, List.setIfInBounds_toArray, List.set_cons_zero, List.set_cons_succ])
        | (apply SeqP.call; rfl; rfl; (intro w2 hw; have hw := hTP _ hw; ((obtain ⟨p0, p1, p2, p3, p4, p5, p6, p7, p8, p9⟩ := it_cells (FA _ hw); obtain ⟨q0, q1, q2, q3, q4, q5, q6, q7, q8, q9⟩ := it_cells (FB _ hw))); go_simp; exact ⟨rfl, rfl⟩); (intro w2 hw; have hw := hTP _ hw; ((obtain ⟨p0, p1, p2, p3, p4, p5, p6, p7, p8, p9⟩ := it_cells (FA _ hw); obtain ⟨q0, q1, q2, q3, q4, q5, q6, q7, q8, q9⟩ := it_cells (FB _ hw))); (first | fail)); simp only [Act.put, List.setIfInBounds_toArray, List.set_cons_zero, List.set_cons_succ])
        | (apply SeqP.pure; rfl; (intro w2 hw; have hw := hTP _ hw; ((obtain ⟨p0, p1, p2, p3, p4, p5, p6, p7, p8, p9⟩ := it_cells (FA _ hw); obtain ⟨q0, q1, q2, q3, q4, q5, q6, q7, q8, q9⟩ := it_cells (FB _ hw))); go_simp; with_reducible rfl); simp only [Act.put, List.setIfInBounds_toArray, List.set_cons_zero, List.set_cons_succ])
        | (apply SeqP.split; rfl; rfl; all_goals (intro hc; simp only [hc]; try simp only [beq_iff_eq, decide_eq_true_eq, beq_eq_false_iff_ne, decide_eq_false_iff_not, bne_iff_ne, ne_eq, Bool.not_eq_true', Bool.not_eq_false', Int.not_le, Int.not_lt, bne_eq_false_iff_eq, Bool.or_eq_true, Bool.and_eq_true, Bool.or_eq_false_iff] at hc)))
      apply SeqP.eff
      · rfl
      intro KE hKE
      go_wp2_with fail
      refine (sameitem_any x s1 s2 _ ((HE.out.1.pure hwr).pure (Below.refl _ _).drew) ((HE.out.2.pure hwr).pure (Below.refl _ _).drew)).mono ?_
      rintro e w2 ⟨rfl, hb⟩
      have hw2 := below_trans hwr.drew hb hwr.size
      refine hKE _ _ (hTP' _ hw2) ?_
      clear hKE KE hb
      go_wp2_with (first
        | (apply SeqP.skip; rfl; simp only [Act.put, List.setIfInBounds_toArray, List.set_cons_zero, List.set_cons_succ])
        | (apply SeqP.call; rfl; rfl; (intro w2 hw; have hw := hTP _ hw; (skip); go_simp; exact ⟨rfl, rfl⟩); (intro w2 hw; have hw := hTP _ hw; (skip); (first | fail)); simp only [Act.put, List.setIfInBounds_toArray, List.set_cons_zero, List.set_cons_succ])
        | (apply SeqP.pure; rfl; (intro w2 hw; have hw := hTP _ hw; (skip); go_simp; with_reducible rfl); simp only [Act.put, List.setIfInBounds_toArray, List.set_cons_zero, List.set_cons_succ])
        | (apply SeqP.split; rfl; rfl; all_goals (intro hc; simp only [hc]; try simp only [beq_iff_eq, decide_eq_true_eq, beq_eq_false_iff_ne, decide_eq_false_iff_not, bne_iff_ne, ne_eq, Bool.not_eq_true', Bool.not_eq_false', Int.not_le, Int.not_lt, bne_eq_false_iff_eq, Bool.or_eq_true, Bool.and_eq_true, Bool.or_eq_false_iff] at hc)))
      apply SeqP.nil
      refine hKP _ _ (hTP' _ (hw2)) ?_
      clear hKP hTP hTP'
      clear FA FB HE
      go_wp2_with fail
      go_roundg (l.length - (j + 1))
      case measure => have hkk := AA.out; omega
      case rel => exact ⟨j + 1, rfl, by omega, by go_num, hw2⟩
    · go_wp2_with fail
      go_ret
      exact ⟨rfl, hwr⟩
end Go.Proofs.Ytifeokabecgimaa
