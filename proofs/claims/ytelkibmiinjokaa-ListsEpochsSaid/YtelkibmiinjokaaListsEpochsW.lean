/-
  The walk over the statement 'ListsEpochs'.
-/
import Derived.Test.YtelkibmiinjokaaWorks14
import Derived.Test.YtelkibmiinjokaaEpochs14
set_option linter.unusedSimpArgs false
set_option linter.unusedVariables false
set_option maxRecDepth 100000
namespace Go.Proofs.Ytelkibmiinjokaa
open Go.RowKit Go.Sq Go.Wd

theorem ints_get {l : List Int} {i : Nat} {x : Int} (h : l[i]? = some x) : (ints l)[i]? = some (.int .i64 x) := by simp [ints, h]

set_option maxHeartbeats 4000000 in
theorem listsEpochs_walk (l : List Ent) (A : Option Addr) (c : Nat) (cut : Int) (hcut : 0 ≤ cut ∧ cut ≤ 65535) (w : World) (ha : Ents w w.heap.size A l) (hl : l.length ≤ 9223372036854775807) (kc : l.length ≤ c) (kc2 : c ≤ 9223372036854775807) :
    Calls Try.prog 10 #[.slice A l.length c, .int .u16 cut] w fun e w' => e = .returned (.bool true) ∧ Below w.heap.size w w' := by
  have hw := Below.refl w.heap.size w
  have H := Lib.hid ha
  have EA : ∀ {w' : World}, Below w.heap.size w w' → Ents w' w'.heap.size A l := fun h => (ha.below h).more h.size
  clear ha
  by_cases h1 : 300 < l.length
  · go_enter Try.func10, Try.ntmps10
    go_wp2_with fail
    go_ret
    exact ⟨rfl, hw⟩
  have l1 : l.length ≤ 300 := by omega
  have HC := Lib.hid (And.intro hcut kc)
  clear hcut kc
  have hsl : (sealsL l).length ≤ 300 := by have := sealsTo_len l l.length; unfold sealsL; omega
  go_enter Try.func10, Try.ntmps10
  go_wp2_with fail
  refine (seals_any l A c _ (EA hw) (by omega)).mono ?_
  rintro e w1 ⟨v, rfl, O, hw1⟩
  obtain ⟨B, q, rfl⟩ : ∃ B q, v = .slice B (sealsL l).length q := by
    rcases O.2 with ⟨rfl, h⟩ | ⟨g, cap, cur, rfl, _⟩
    · exact ⟨none, 0, by rw [h]⟩
    · exact ⟨_, _, rfl⟩
  go_wp2_with fail
  go_loopg [6, 7] (sealsL l).length (fun q2 at_ i wr => ∃ a j : Nat, q2 = (sealsL l).length - j ∧ a ≤ l.length ∧ at_ = .int .i64 a ∧ i = .int .i64 j ∧ (sealsTo l a).length = j ∧ (a = 0 ∨ (0 < a ∧ sealAt l (a - 1) = true)) ∧ Below w.heap.size w wr ∧ wr.ownsRow w.heap.size 3 1 (.slice B (sealsL l).length q) (sealsL l).length (ints (sealsL l)))
  case atStart => exact ⟨0, 0, rfl, by omega, rfl, rfl, rfl, .inl rfl, hw1, O⟩
  case round =>
    clear hw1 O
    obtain ⟨a, j, hk, hal, rfl, rfl, hsj, hprev, hwr, O⟩ := hrel
    have hjS : j ≤ (sealsL l).length := by have := (sealsTo_pre l hal).length_le; unfold sealsL; omega
    have AA : Aside (gk = (sealsL l).length - j ∧ (sealsTo l a).length = j) := ⟨hk, hsj⟩
    by_cases hlt : j < (sealsL l).length
    · obtain ⟨p, hap, hpl, hps, hno, hget, hnext⟩ := seal_next l _ a j rfl hal hsj hlt
      have HN := Lib.hid (And.intro hps (And.intro hno hnext))
      obtain ⟨g, cap, hv, hgB, hglt⟩ := O.form (by omega)
      cases hv
      have hcell : ∀ w2, Below wr.heap.size wr w2 → w2.cell? ⟨g, j, none⟩ = some (.int .i64 ((p : Int) + 1)) := by
        intro w2 hb2
        refine (hb2.cell (p := ⟨g, j, none⟩) hglt).trans ?_
        rw [O.cellAt j (by omega), ints_get hget]
        go_num
      clear hk hsj hps hno hnext hget
      have hw0 := hwr.size
      obtain ⟨b1, o1, x, rfl, hx, FA⟩ := H.out.at_ (show a < l.length by omega)
      have FX : ∀ w2, Below wr.heap.size wr w2 → EntAt w2 b1 (o1 + a * 6) x := fun w2 hb2 => FA w2 (below_trans hwr hb2 hw0)
      have wpx : IntKind.i64.wrap ((a : Int) + 1) = (a : Int) + 1 := IntWalk.i64_in _ (by omega)
      have r0 := Below.refl wr.heap.size wr
      rcases hprev with h0 | ⟨h0, hseal⟩
      case' inl =>
        have HP : Hid (a = 0 ∨ 0 < a) := Lib.hid (.inl h0)
        have hz : ¬ (0 : Int) < (a : Int) := by omega
        have hz2 : (a : Int) ≤ 0 := by omega
        clear h0
        go_wp2_with fail
        refine wp_region_p ([(0, true), (1, true), (2, true), (3, true), (4, true), (5, true), (6, true), (7, true), (8, true), (9, true), (10, true), (11, true), (12, true), (13, true), (14, true), (15, true), (16, true), (17, true), (18, true), (19, true), (20, true), (21, true), (22, true), (23, true), (24, true), (25, true), (26, true), (27, true), (28, true), (29, true), (30, true), (31, true), (32, true)]) (fun w' => Below wr.heap.size wr w') (by kernel_rfl) rfl (by kernel_rfl) (by kernel_rfl) (r0.drew) rfl ?_
        intro KP RP TP hKP hTP hTP'
        simp only [pick, nth]
        go_wp2_with (first
          | (apply SeqP.skip; rfl; simp only [Act.put, List.setIfInBounds_toArray, List.set_cons_zero, List.set_cons_succ])
          | (apply SeqP.call; rfl; rfl; (intro w2 hw; have hw := hTP _ hw; ((have q0 := hcell _ hw)); go_simp; exact ⟨rfl, rfl⟩); (intro w2 hw; have hw := hTP _ hw; ((have q0 := hcell _ hw)); (first | fail)); simp only [Act.put, List.setIfInBounds_toArray, List.set_cons_zero, List.set_cons_succ])
          | (apply SeqP.pure; rfl; (intro w2 hw; have hw := hTP _ hw; ((have q0 := hcell _ hw)); go_simp; with_reducible rfl); simp only [Act.put, List.setIfInBounds_toArray, List.set_cons_zero, List.set_cons_succ])
          | (apply SeqP.split; rfl; rfl; all_goals (intro hc; simp only [hc]; try simp only [beq_iff_eq, decide_eq_true_eq, beq_eq_false_iff_ne, decide_eq_false_iff_not, bne_iff_ne, ne_eq, Bool.not_eq_true', Bool.not_eq_false', Int.not_le, Int.not_lt, bne_eq_false_iff_eq, Bool.or_eq_true, Bool.and_eq_true, Bool.or_eq_false_iff] at hc)))
        all_goals first | (exfalso; omega) | skip
        apply SeqP.nil
        refine hKP _ _ (hTP' _ (r0.drew)) ?_
        clear hKP hTP hTP'
        clear hz hz2
      case' inr =>
        obtain ⟨a', ha'⟩ : ∃ a', a = a' + 1 := ⟨a - 1, by omega⟩
        have HA' := Lib.hid ha'
        have hseal : sealAt l a' = true := by rw [show a' = a - 1 from by omega]; exact hseal
        obtain ⟨b3, o3, y, hab, hy, FB⟩ := H.out.at_ (show a' < l.length by omega)
        cases hab
        have hxx : Hid (l[a' + 1]? = some x) := Lib.hid (by rw [← HA'.out]; exact hx.out)
        have hne : (x.1 == y.1) = false := by
          rw [beq_eq_false_iff_ne]
          exact fun e => seal_yes hseal hy.out hxx.out e.symm
        have FY : ∀ w2, Below wr.heap.size wr w2 → EntAt w2 b1 (o1 + a' * 6) y := fun w2 hb2 => FB w2 (below_trans hwr hb2 hw0)
        have wa : IntKind.i64.wrap ((a : Int) - 1) = (a' : Int) := by rw [IntWalk.i64_in _ (by omega)]; omega
        have i0 : (0 : Int) < (a : Int) := by omega
        have i1 : (a : Int) < (l.length : Int) := by omega
        have i2 : (a' : Int) < (l.length : Int) := by omega
        clear ha' hseal
        go_wp2_with fail
        refine wp_region_p ([(0, true), (1, true), (2, true), (3, true), (4, true), (5, true), (6, true), (7, true), (8, true), (9, true), (10, true), (11, true), (12, true), (13, true), (14, true), (15, true), (16, true), (17, true), (18, true), (19, true), (20, true), (21, true), (22, true), (23, true), (24, true), (25, true), (26, true), (27, true), (28, true), (29, true), (30, true), (31, true), (32, true)]) (fun w' => Below wr.heap.size wr w') (by kernel_rfl) rfl (by kernel_rfl) (by kernel_rfl) (r0.drew) rfl ?_
        intro KP RP TP hKP hTP hTP'
        simp only [pick, nth]
        go_wp2_with (first
          | (apply SeqP.skip; rfl; simp only [Act.put, List.setIfInBounds_toArray, List.set_cons_zero, List.set_cons_succ])
          | (apply SeqP.call; rfl; rfl; (intro w2 hw; have hw := hTP _ hw; ((have q0 := hcell _ hw; obtain ⟨p0, p1, p2, p3, p4, p5⟩ := FX _ hw; obtain ⟨z0, z1, z2, z3, z4, z5⟩ := FY _ hw)); go_simp; exact ⟨rfl, rfl⟩); (intro w2 hw; have hw := hTP _ hw; ((have q0 := hcell _ hw; obtain ⟨p0, p1, p2, p3, p4, p5⟩ := FX _ hw; obtain ⟨z0, z1, z2, z3, z4, z5⟩ := FY _ hw)); (first | fail)); simp only [Act.put, List.setIfInBounds_toArray, List.set_cons_zero, List.set_cons_succ])
          | (apply SeqP.pure; rfl; (intro w2 hw; have hw := hTP _ hw; ((have q0 := hcell _ hw; obtain ⟨p0, p1, p2, p3, p4, p5⟩ := FX _ hw; obtain ⟨z0, z1, z2, z3, z4, z5⟩ := FY _ hw)); go_simp; with_reducible rfl); simp only [Act.put, List.setIfInBounds_toArray, List.set_cons_zero, List.set_cons_succ])
          | (apply SeqP.split; rfl; rfl; all_goals (intro hc; simp only [hc]; try simp only [beq_iff_eq, decide_eq_true_eq, beq_eq_false_iff_ne, decide_eq_false_iff_not, bne_iff_ne, ne_eq, Bool.not_eq_true', Bool.not_eq_false', Int.not_le, Int.not_lt, bne_eq_false_iff_eq, Bool.or_eq_true, Bool.and_eq_true, Bool.or_eq_false_iff] at hc)))
        all_goals first | (exfalso; omega) | skip
        apply SeqP.nil
        refine hKP _ _ (hTP' _ (r0.drew)) ?_
        clear hKP hTP hTP'
        clear FY wa i0 i1 i2 hne HA'
      all_goals
        obtain ⟨wo, rfl⟩ : ∃ wo : World, wo = wr := ⟨wr, rfl⟩
        refine abs_at (fun W => Below wo.heap.size wo W) r0.drew ?_
        intro W hW
        go_wp2_with fail
        go_loopg [8] (p + 1 - (a + 1)) (fun q3 k wi => ∃ kk : Nat, q3 = p + 1 - kk ∧ a + 1 ≤ kk ∧ kk ≤ p + 1 ∧ k = .int .i64 kk ∧ Below wo.heap.size wo wi)
        case atStart => exact ⟨a + 1, rfl, by omega, by omega, by go_num, hW⟩
        case round =>
          clear hW
          obtain ⟨kk, hq3, hk1, hk2, rfl, hwi⟩ := hrel
          have A3 : Aside (gk = p + 1 - kk) := hq3
          clear hq3
          have q0 := hcell _ hwi
          by_cases hkp : kk < p + 1
          · obtain ⟨b4, o4, z, hab, hz, FC⟩ := H.out.at_ (show kk < l.length by omega)
            cases hab
            have hzx : (z.1 != x.1) = false := by
              rw [bne_eq_false_iff_eq]
              exact run_same l HN.out.2.1 hpl kk x z (by omega) (by omega) hx.out hz.out
            have hkl : kk < l.length := by omega
            have hal2 : a < l.length := by omega
            have FZ : ∀ w2, Below wo.heap.size wo w2 → EntAt w2 b1 (o1 + kk * 6) z := fun w2 hb2 => FC w2 (below_trans hwr hb2 hw0)
            go_wp2_with fail
            refine wp_region_p ([(0, true), (1, true), (2, true), (3, true), (4, true), (5, true), (6, true), (7, true), (8, true), (9, true), (10, true)]) (fun w' => Below wo.heap.size wo w') (by kernel_rfl) rfl (by kernel_rfl) (by kernel_rfl) (hwi.drew) rfl ?_
            intro KP RP TP hKP hTP hTP'
            simp only [pick, nth]
            go_wp2_with (first
              | (apply SeqP.skip; rfl; simp only [Act.put, List.setIfInBounds_toArray, List.set_cons_zero, List.set_cons_succ])
              | (apply SeqP.call; rfl; rfl; (intro w2 hw; have hw := hTP _ hw; ((obtain ⟨p0, p1, p2, p3, p4, p5⟩ := FX _ hw; obtain ⟨z0, z1, z2, z3, z4, z5⟩ := FZ _ hw)); go_simp; exact ⟨rfl, rfl⟩); (intro w2 hw; have hw := hTP _ hw; ((obtain ⟨p0, p1, p2, p3, p4, p5⟩ := FX _ hw; obtain ⟨z0, z1, z2, z3, z4, z5⟩ := FZ _ hw)); (first | fail)); simp only [Act.put, List.setIfInBounds_toArray, List.set_cons_zero, List.set_cons_succ])
              | (apply SeqP.pure; rfl; (intro w2 hw; have hw := hTP _ hw; ((obtain ⟨p0, p1, p2, p3, p4, p5⟩ := FX _ hw; obtain ⟨z0, z1, z2, z3, z4, z5⟩ := FZ _ hw)); go_simp; with_reducible rfl); simp only [Act.put, List.setIfInBounds_toArray, List.set_cons_zero, List.set_cons_succ])
              | (apply SeqP.split; rfl; rfl; all_goals (intro hc; simp only [hc]; try simp only [beq_iff_eq, decide_eq_true_eq, beq_eq_false_iff_ne, decide_eq_false_iff_not, bne_iff_ne, ne_eq, Bool.not_eq_true', Bool.not_eq_false', Int.not_le, Int.not_lt, bne_eq_false_iff_eq, Bool.or_eq_true, Bool.and_eq_true, Bool.or_eq_false_iff] at hc)))
            apply SeqP.nil
            refine hKP _ _ (hTP' _ (hwi.drew)) ?_
            clear hKP hTP hTP'
            clear FZ
            go_wp2_with fail
            go_roundg (p + 1 - (kk + 1))
            case measure => have hkk := A3.out; omega
            case rel => exact ⟨kk + 1, rfl, by omega, by omega, by go_num, hwi.drew⟩
          · go_wp2_with fail
            go_roundg ((sealsL l).length - (j + 1))
            case measure => have hkk := AA.out.1; omega
            case rel =>
              exact ⟨p + 1, j + 1, rfl, by omega, by go_num, by go_num, HN.out.2.2, .inr ⟨by omega, by simpa using HN.out.1⟩, below_trans hwr hwi hw0, O.kept (only_of_below hwi none) (Classical.em _)⟩
    · have hjn : j = (sealsL l).length := by omega
      have han : a = l.length := seal_end l hal (by rw [hsj, hjn])
      clear hk hsj hprev AA
      subst han
      subst hjn
      have hw1 := hwr
      go_wp2_with fail
      refine (rising_any l _ c _ (EA hw1) (by omega)).mono ?_
      rintro e w2 ⟨rfl, hb⟩
      have hw2 := below_trans hw1 hb hw1.size
      clear hb hwr hw1 O
      cases hr : risesB l with
      | false =>
        have hgt : 1 < (sealsL l).length := by
          rcases Nat.lt_or_ge 1 (sealsL l).length with h | h
          · exact h
          · exfalso; rw [few_rise l h] at hr; cases hr
        clear hr
        go_wp2_with fail
        refine (works_any _).mono ?_
        rintro e wz ⟨rfl, hb⟩
        go_wp2_with fail
        go_ret
        exact ⟨rfl, below_trans hw2 hb hw2.size⟩
      | true =>
        have HR : Hid (Rises l) := Lib.hid ((rises_iff l).1 hr)
        clear hr
        have hnew : ∀ i, i ≤ l.length → newTo l i ≤ 300 := by
          intro i hi
          unfold newTo
          split
          · omega
          · have := sealsTo_len l (i - 1); omega
        go_wp2_with fail
        go_loopg [9, 10] l.length (fun q2 u i wr => ∃ j : Nat, q2 = l.length - j ∧ j ≤ l.length ∧ i = .int .i64 j ∧ u = .int .i64 (newTo l j : Nat) ∧ Below w.heap.size w wr)
        case atStart => exact ⟨0, rfl, by omega, rfl, rfl, hw2⟩
        case round =>
          clear hw2
          obtain ⟨j, hk, hj, rfl, rfl, hwr⟩ := hrel
          have AA : Aside (gk = l.length - j) := hk
          clear hk
          by_cases hlt : j < l.length
          · obtain ⟨wo, rfl⟩ : ∃ wo : World, wo = wr := ⟨wr, rfl⟩
            obtain ⟨b1, o1, x, rfl, hx, FA⟩ := H.out.at_ hlt
            have hn1 := hnew j hj
            go_wp2_with fail
            go_loopg [11, 12] j (fun q3 cm k wi => ∃ kk : Nat, q3 = j - kk ∧ kk ≤ j ∧ k = .int .i64 kk ∧ cm = .bool (cameTo l j kk) ∧ Below w.heap.size w wi)
            case atStart => exact ⟨0, rfl, by omega, rfl, rfl, hwr⟩
            case round =>
              clear hwr
              obtain ⟨kk, hq3, hk1, rfl, rfl, hwi⟩ := hrel
              have A3 : Aside (gk = j - kk) := hq3
              clear hq3
              by_cases hkp : kk < j
              · obtain ⟨b4, o4, z, hab, hz, FC⟩ := H.out.at_ (show kk < l.length by omega)
                cases hab
                have hkl : kk < l.length := by omega
                have hcs : Hid (cameTo l j (kk + 1) = (cameTo l j kk || (z.1 == x.1))) := Lib.hid (by
                  rw [came_succ, hz.out, hx.out]
                  congr 1
                  rw [Bool.eq_iff_iff]
                  simp)
                cases hcm : cameTo l j kk
                all_goals
                  have HCM := Lib.hid hcm
                  clear hcm
                  go_wp2_with fail
                  refine wp_region_p ([(0, true), (1, true), (2, true), (3, true), (4, true), (5, true), (6, true), (7, true), (8, true), (9, true), (10, true), (11, true), (12, true), (13, true), (14, true)]) (fun w' => Below w.heap.size w w') (by kernel_rfl) rfl (by kernel_rfl) (by kernel_rfl) (hwi.drew) rfl ?_
                  intro KP RP TP hKP hTP hTP'
                  simp only [pick, nth]
                  go_wp2_with (first
                    | (apply SeqP.skip; rfl; simp only [Act.put, List.setIfInBounds_toArray, List.set_cons_zero, List.set_cons_succ])
                    | (apply SeqP.call; rfl; rfl; (intro w2 hw; have hw := hTP _ hw; ((obtain ⟨p0, p1, p2, p3, p4, p5⟩ := FA _ hw; obtain ⟨z0, z1, z2, z3, z4, z5⟩ := FC _ hw)); go_simp; exact ⟨rfl, rfl⟩); (intro w2 hw; have hw := hTP _ hw; ((obtain ⟨p0, p1, p2, p3, p4, p5⟩ := FA _ hw; obtain ⟨z0, z1, z2, z3, z4, z5⟩ := FC _ hw)); (first | fail)); simp only [Act.put, List.setIfInBounds_toArray, List.set_cons_zero, List.set_cons_succ])
                    | (apply SeqP.pure; rfl; (intro w2 hw; have hw := hTP _ hw; ((obtain ⟨p0, p1, p2, p3, p4, p5⟩ := FA _ hw; obtain ⟨z0, z1, z2, z3, z4, z5⟩ := FC _ hw)); go_simp; with_reducible rfl); simp only [Act.put, List.setIfInBounds_toArray, List.set_cons_zero, List.set_cons_succ])
                    | (apply SeqP.split; rfl; rfl; all_goals (intro hc; simp only [hc]; try simp only [beq_iff_eq, decide_eq_true_eq, beq_eq_false_iff_ne, decide_eq_false_iff_not, bne_iff_ne, ne_eq, Bool.not_eq_true', Bool.not_eq_false', Int.not_le, Int.not_lt, bne_eq_false_iff_eq, Bool.or_eq_true, Bool.and_eq_true, Bool.or_eq_false_iff] at hc)))
                  apply SeqP.nil
                  refine hKP _ _ (hTP' _ (hwi.drew)) ?_
                  clear hKP hTP hTP'
                  go_wp2_with fail
                  go_roundg (j - (kk + 1))
                  case measure => have hkk := A3.out; omega
                  case rel => exact ⟨kk + 1, rfl, by omega, by go_num, by rw [hcs.out, HCM.out]; rfl, hwi.drew⟩
              · have hkj : kk = j := by omega
                have hns : Hid (newTo l (j + 1) = newTo l j + if cameTo l j kk = true then 0 else 1) := Lib.hid (by rw [hkj]; exact new_succ HR.out hlt)
                clear hkj
                cases hcm : cameTo l j kk
                all_goals
                  have HCM := Lib.hid hcm
                  clear hcm
                  go_wp2_with fail
                  go_roundg (l.length - (j + 1))
                  case measure => have hkk := AA.out; omega
                  case rel => exact ⟨j + 1, rfl, by omega, by go_num, by rw [hns.out, HCM.out]; simp; try go_num, hwi⟩
          · have hjl : j = l.length := by omega
            have hnl : Hid (newTo l j = (sealsL l).length) := Lib.hid (by rw [hjl]; exact new_all l)
            clear hnew
            have heq : ((newTo l j : Int) == ((sealsL l).length : Int)) = true := by rw [hnl.out]; simp
            obtain ⟨⟨x0, x1⟩, hkc⟩ := HC.out
            have wx : IntKind.i64.wrap cut = cut := IntWalk.i64_in _ (by omega)
            have wl : IntKind.i64.wrap ((l.length : Int) + 1) = (l.length : Int) + 1 := IntWalk.i64_in _ (by omega)
            have nz : ¬ (l.length : Int) + 1 = 0 := by omega
            obtain ⟨i, hi, hil⟩ : ∃ i : Nat, cut.tmod ((l.length : Int) + 1) = i ∧ i ≤ l.length := ⟨(cut % ((l.length : Int) + 1)).toNat, by rw [Int.tmod_eq_emod_of_nonneg x0]; have := Int.emod_nonneg cut (show (l.length : Int) + 1 ≠ 0 by omega); omega, by have := Int.emod_lt_of_pos cut (show 0 < (l.length : Int) + 1 by omega); omega⟩
            have hxm : cut % ((l.length : Int) + 1) = i := by rw [← hi, Int.tmod_eq_emod_of_nonneg x0]
            have wi : IntKind.i64.wrap (i : Int) = i := IntWalk.i64_in _ (by omega)
            have hic : i ≤ c := by omega
            have li : (l.take i).length = i := by rw [List.length_take]; omega
            have R1 := rising_any (l.take i) A c wr ((EA hwr).take i) (by rw [li]; omega)
            rw [li, rises_take HR.out] at R1
            have HRR := Lib.hid R1
            clear R1 li hjl hkc
            go_wp2_with fail
            refine HRR.out.mono ?_
            rintro e w3 ⟨rfl, hb⟩
            have hw3 := below_trans hwr hb hwr.size
            go_wp2_with fail
            refine (works_any _).mono ?_
            rintro e wz ⟨rfl, hb⟩
            go_wp2_with fail
            go_ret
            exact ⟨rfl, below_trans hw3 hb hw3.size⟩
end Go.Proofs.Ytelkibmiinjokaa
