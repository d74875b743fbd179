/-
  The walk over SameOutcomes: two slices of the same outcomes.
-/
import Derived.Test.YtifeokabecgimaaFoldDec
import Derived.Test.YtifeokabecgimaaSame12
import Derived.Test.YtifeokabecgimaaSeqP
import Derived.Deep.LoopGhost
set_option linter.unusedSimpArgs false
set_option linter.unusedVariables false
set_option maxRecDepth 100000
namespace Go.Proofs.Ytifeokabecgimaa
open Go Go.RowKit Go.Sq Go.Wd Go.Arch

/-- v reads as these outcomes. -/
def OutsR (w : World) (v : Value) (outs : List OutS) : Prop :=
  ∃ A c, v = .slice A outs.length c ∧ outs.length ≤ c ∧ c ≤ 9223372036854775807 ∧ ∀ k o, outs[k]? = some o → ∃ (g : Nat) (sl : Sl), A = some ⟨g, 0, none⟩ ∧ g < w.heap.size ∧ EvAt w 0 none sl o.2.2 ∧
    w.cell? ⟨g, k * 3, none⟩ = some (.int .i64 o.1) ∧ w.cell? ⟨g, k * 3 + 1, none⟩ = some (.int .i64 o.2.1) ∧ w.cell? ⟨g, k * 3 + 2, none⟩ = some (.slice sl.1 sl.2.1 sl.2.2)

theorem EvAt.read {w : World} {B : Nat} {own : Option Nat} {sl : Sl} {evs : List (Int × Int)} (h : EvAt w B own sl evs) : EvAt w 0 none sl evs := by
  rcases h with h | ⟨g, k, a, h1, h2, h3, h4, h5, h6⟩
  · exact .inl h
  · exact .inr ⟨g, k, a, h1, h2, Nat.zero_le _, h4, by simp, h6⟩
theorem EvAt.pure {w w' : World} {B : Nat} {own : Option Nat} {sl : Sl} {evs : List (Int × Int)} (h : EvAt w B own sl evs) (hb : Below w.heap.size w w') : EvAt w' B own sl evs :=
  h.keep (only_of_below hb none) (fun g e => by cases e)

theorem Outs.toR {w : World} {B : Nat} {v : Value} {outs : List OutS} (h : Outs w B v outs) : OutsR w v outs := by
  by_cases h0 : outs.length = 0
  · obtain ⟨ps, h1, h2, _⟩ := h
    have hp : ps.length = 0 := by rw [← h0, ← h1, List.length_map]
    have he : outs = [] := List.eq_nil_of_length_eq_zero h0
    subst he
    rcases h2.2 with ⟨rfl, _⟩ | ⟨g, cap, cur, rfl, _, _, q1, q2, _⟩
    · exact ⟨none, 0, rfl, Nat.le_refl _, by omega, fun k o hk => by simp at hk⟩
    · exact ⟨some ⟨g, 0, none⟩, cap, by rw [hp]; rfl, by simp, by simp only [maxLen] at q2; omega, fun k o hk => by simp at hk⟩
  · obtain ⟨g, cap, o, sl, hv, _, _, _, hc1, hc2, _⟩ := h.read (k := 0) (by omega)
    refine ⟨_, _, hv, hc1, by simp only [maxLen] at hc2; omega, fun k o hk => ?_⟩
    have hlt : k < outs.length := (List.getElem?_eq_some_iff.1 hk).1
    obtain ⟨g', cap', o', sl', hv', ho', _, hg', _, _, he, c0, c1, c2⟩ := h.read hlt
    rw [hv] at hv'
    cases hv'
    rw [hk] at ho'
    cases ho'
    exact ⟨g, sl', rfl, hg', he.read, c0, c1, c2⟩
theorem OutsR.keep {w w' : World} {v : Value} {outs : List OutS} (h : OutsR w v outs) (hb : Below w.heap.size w w') : OutsR w' v outs := by
  obtain ⟨A, c, h1, h2, h3, h4⟩ := h
  refine ⟨A, c, h1, h2, h3, fun k o hk => ?_⟩
  obtain ⟨g, sl, ha, hg, he, c0, c1, c2⟩ := h4 k o hk
  exact ⟨g, sl, ha, Nat.lt_of_lt_of_le hg hb.size, he.pure hb, (hb.cell (p := ⟨g, _, none⟩) hg).trans c0, (hb.cell (p := ⟨g, _, none⟩) hg).trans c1, (hb.cell (p := ⟨g, _, none⟩) hg).trans c2⟩
/-- A beginning. -/
theorem OutsR.take {w : World} {A : Option Addr} {n c : Nat} {outs : List OutS} (h : OutsR w (.slice A n c) outs) {m : Nat} (hm : m ≤ outs.length) : OutsR w (.slice A m c) (outs.take m) := by
  obtain ⟨A', c', h1, h2, h3, h4⟩ := h
  cases h1
  refine ⟨A, c, by rw [List.length_take, Nat.min_eq_left hm], by rw [List.length_take]; omega, h3, fun k o hk => ?_⟩
  rw [List.getElem?_take] at hk
  split at hk
  · exact h4 k o hk
  · cases hk

theorem same_out (o : OutS) (s1 s2 : Sl) (w : World) (h1 : EvAt w 0 none s1 o.2.2) (h2 : EvAt w 0 none s2 o.2.2) :
    Calls Try.prog 23 #[.agg #[.int .i64 o.1, .int .i64 o.2.1, .slice s1.1 s1.2.1 s1.2.2], .agg #[.int .i64 o.1, .int .i64 o.2.1, .slice s2.1 s2.2.1 s2.2.2]] w fun e w' => e = .returned (.bool true) ∧ Below w.heap.size w w' := by
  rcases h1 with ⟨h1, rfl⟩ | ⟨g, k, a, rfl, e1, _, g2, _, c0, c1, _⟩
  · rcases h2 with ⟨_, rfl⟩ | ⟨g, k, a, rfl, e2, _⟩
    · exact same_nil _ _ _
    · rw [h1] at e2; cases e2
  · rcases h2 with ⟨h2, rfl⟩ | ⟨g', k', a', rfl, e2, _, g2', _, d0, d1, _⟩
    · rw [h2] at e1; cases e1
    · rw [e1] at e2
      cases e2
      exact same_one _ _ _ _ _ _ _ g2 g2' c0 c1 d0 d1

theorem same_outs (outs : List OutS) (v1 v2 : Value) (w : World) (h1 : OutsR w v1 outs) (h2 : OutsR w v2 outs) :
    Calls Try.prog 17 #[v1, v2] w fun e w' => e = .returned (.bool true) ∧ Below w.heap.size w w' := by
  have hw : Below w.heap.size w w := Below.refl _ _
  have H1 := Lib.hid h1
  have H2 := Lib.hid h2
  obtain ⟨A1, c1, rfl, q1, p1, r1⟩ := h1
  obtain ⟨A2, c2, rfl, q2, p2, r2⟩ := h2
  have R1 := Lib.hid r1
  have R2 := Lib.hid r2
  clear r1 r2
  have hlen : outs.length ≤ 9223372036854775807 := by omega
  clear q1 p1 q2 p2
  have hne : ((outs.length : Int) != (outs.length : Int)) = false := by simp
  go_enter Try.func17, Try.ntmps17
  go_wp2_with fail
  go_loopg [5] outs.length (fun k i wr => ∃ j : Nat, k = outs.length - j ∧ j ≤ outs.length ∧ i = .int .i64 j ∧ Below w.heap.size w wr)
  case atStart => exact ⟨0, rfl, by omega, rfl, hw⟩
  case round =>
    clear hw
    obtain ⟨j, hk, hj, rfl, hwr⟩ := hrel
    have AA : Aside (gk = outs.length - j) := hk
    clear hk
    by_cases hlt : j < outs.length
    · obtain ⟨o, ho⟩ : ∃ o, outs[j]? = some o := ⟨_, List.getElem?_eq_getElem hlt⟩
      obtain ⟨g1, s1, rfl, hg1, he1, a0, a1, a2⟩ := R1.out j o ho
      obtain ⟨g2, s2, rfl, hg2, he2, b0, b1, b2⟩ := R2.out j o ho
      have HE := Lib.hid (And.intro he1 he2)
      clear he1 he2 ho R1 R2 H1 H2
      go_wp2_with fail
      refine wp_region_p ([(0, true), (1, true), (2, true), (3, true), (4, true), (5, true), (6, true), (7, true), (8, false), (9, true)]) (fun w' => Below w.heap.size w w') (by kernel_rfl) rfl (by kernel_rfl) (by kernel_rfl) (hwr.drew) rfl ?_
      intro KP RP TP hKP hTP hTP'
      simp only [pick, nth]
      go_wp2_with (first
        | (apply SeqP.skip; rfl; simp only [Act.put, List.setIfInBounds_toArray, List.set_cons_zero, List.set_cons_succ])
        | (apply SeqP.call; rfl; rfl; (intro w2 hw; have hw := hTP _ hw; ((have x0 := (hw.cell (p := ⟨g1, _, none⟩) hg1).trans a0; have x1 := (hw.cell (p := ⟨g1, _, none⟩) hg1).trans a1; have x2 := (hw.cell (p := ⟨g1, _, none⟩) hg1).trans a2; have y0 := (hw.cell (p := ⟨g2, _, none⟩) hg2).trans b0; have y1 := (hw.cell (p := ⟨g2, _, none⟩) hg2).trans b1; have y2 := (hw.cell (p := ⟨g2, _, none⟩) hg2).trans b2)); go_simp; exact ⟨rfl, rfl⟩); (intro w2 hw; have hw := hTP _ hw; ((have x0 := (hw.cell (p := ⟨g1, _, none⟩) hg1).trans a0; have x1 := (hw.cell (p := ⟨g1, _, none⟩) hg1).trans a1; have x2 := (hw.cell (p := ⟨g1, _, none⟩) hg1).trans a2; have y0 := (hw.cell (p := ⟨g2, _, none⟩) hg2).trans b0; have y1 := (hw.cell (p := ⟨g2, _, none⟩) hg2).trans b1; have y2 := (hw.cell (p := ⟨g2, _, none⟩) hg2).trans b2)); (first | fail)); simp only [Act.put, List.setIfInBounds_toArray, List.set_cons_zero, List.set_cons_succ])
        | (apply SeqP.pure; rfl; (intro w2 hw; have hw := hTP _ hw; ((have x0 := (hw.cell (p := ⟨g1, _, none⟩) hg1).trans a0; have x1 := (hw.cell (p := ⟨g1, _, none⟩) hg1).trans a1; have x2 := (hw.cell (p := ⟨g1, _, none⟩) hg1).trans a2; have y0 := (hw.cell (p := ⟨g2, _, none⟩) hg2).trans b0; have y1 := (hw.cell (p := ⟨g2, _, none⟩) hg2).trans b1; have y2 := (hw.cell (p := ⟨g2, _, none⟩) hg2).trans b2)); go_simp; with_reducible rfl); simp only [Act.put, List.setIfInBounds_toArray, List.set_cons_zero, List.set_cons_succ])
        | (apply SeqP.split; rfl; rfl; all_goals (intro hc; simp only [hc]; try simp only [beq_iff_eq, decide_eq_true_eq, beq_eq_false_iff_ne, decide_eq_false_iff_not, bne_iff_ne, ne_eq, Bool.not_eq_true', Bool.not_eq_false', Int.not_le, Int.not_lt, bne_eq_false_iff_eq, Bool.or_eq_true, Bool.and_eq_true, Bool.or_eq_false_iff] at hc)))
      apply SeqP.eff
      · rfl
      intro KE hKE
      go_wp2_with fail
      refine (same_out o s1 s2 _ (HE.out.1.pure hwr.drew) (HE.out.2.pure hwr.drew)).mono ?_
      rintro e w1 ⟨rfl, hb⟩
      have hw1 := below_trans hwr.drew hb hwr.size
      refine hKE _ _ (hTP' _ hw1) ?_
      clear hKE KE
      go_wp2_with (first
        | (apply SeqP.skip; rfl; simp only [Act.put, List.setIfInBounds_toArray, List.set_cons_zero, List.set_cons_succ])
        | (apply SeqP.call; rfl; rfl; (intro w2 hw; have hw := hTP _ hw; (skip); go_simp; exact ⟨rfl, rfl⟩); (intro w2 hw; have hw := hTP _ hw; (skip); (first | fail)); simp only [Act.put, List.setIfInBounds_toArray, List.set_cons_zero, List.set_cons_succ])
        | (apply SeqP.pure; rfl; (intro w2 hw; have hw := hTP _ hw; (skip); go_simp; with_reducible rfl); simp only [Act.put, List.setIfInBounds_toArray, List.set_cons_zero, List.set_cons_succ])
        | (apply SeqP.split; rfl; rfl; all_goals (intro hc; simp only [hc]; try simp only [beq_iff_eq, decide_eq_true_eq, beq_eq_false_iff_ne, decide_eq_false_iff_not, bne_iff_ne, ne_eq, Bool.not_eq_true', Bool.not_eq_false', Int.not_le, Int.not_lt, bne_eq_false_iff_eq, Bool.or_eq_true, Bool.and_eq_true, Bool.or_eq_false_iff] at hc)))
      apply SeqP.nil
      refine hKP _ _ (hTP' _ (hw1)) ?_
      clear hKP hTP hTP'
      go_wp2_with fail
      go_roundg (outs.length - (j + 1))
      case measure => have hkk := AA.out; omega
      case rel => exact ⟨j + 1, rfl, by omega, by go_num, hw1⟩
    · obtain rfl : j = outs.length := by omega
      go_wp2_with fail
      go_ret
      exact ⟨rfl, hwr⟩
end Go.Proofs.Ytifeokabecgimaa
