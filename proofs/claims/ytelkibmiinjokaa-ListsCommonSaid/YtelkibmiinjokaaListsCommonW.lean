/-
  The walk over the statement 'ListsCommon'.
-/
import Derived.Test.YtelkibmiinjokaaWorks14
set_option linter.unusedSimpArgs false
set_option linter.unusedVariables false
set_option maxRecDepth 100000
namespace Go.Proofs.Ytelkibmiinjokaa
open Go.RowKit Go.Sq Go.Wd

theorem common_self : ∀ (l m : List Ent), l.take (commonL l m) <+: m
  | l, m => by rw [common_take]; exact List.take_prefix _ _
theorem common_comm : ∀ (l m : List Ent), commonL l m = commonL m l
  | [], [] => rfl
  | [], _ :: _ => rfl
  | _ :: _, [] => rfl
  | a :: l, b :: m => by
    unfold commonL
    by_cases h : a = b
    · subst h; simp [common_comm l m]
    · have h' : ¬ b = a := fun e => h e.symm
      simp [h, h']
theorem common_next (l m : List Ent) {x y : Ent} (hx : l[commonL l m]? = some x) (hy : m[commonL l m]? = some y) : x ≠ y := by
  rcases common_stop l m with h | h | h
  · rw [h] at hx; simp at hx
  · rw [h] at hy; simp at hy
  · intro e; apply h; rw [hx, hy, e]
theorem common_over (l m : List Ent) (h1 : commonL l m < l.length) (h2 : commonL l m < m.length) : ¬ l.take (commonL l m + 1) <+: m := by
  intro h
  have hx := List.getElem?_eq_getElem h1
  have hy := List.getElem?_eq_getElem h2
  refine common_next l m hx hy ?_
  rw [List.prefix_iff_eq_take] at h
  have h3 := congrArg (fun z : List Ent => z[commonL l m]?) h
  simp only [List.length_take] at h3
  rw [List.getElem?_take, List.getElem?_take, if_pos (by omega), if_pos (by omega), hx, hy] at h3
  exact Option.some.inj h3

set_option maxHeartbeats 2000000 in
theorem listsCommon_walk (l m : List Ent) (A B : Option Addr) (c d : Nat) (w : World) (ha : Ents w w.heap.size A l) (hb : Ents w w.heap.size B m) (hl : l.length ≤ 9223372036854775807) (hm : m.length ≤ 9223372036854775807)
    (kc : l.length ≤ c) (kd : m.length ≤ d) (kc2 : c ≤ 9223372036854775807) (kd2 : d ≤ 9223372036854775807) :
    Calls Try.prog 8 #[.slice A l.length c, .slice B m.length d] w fun e w' => e = .returned (.bool true) ∧ Below w.heap.size w w' := by
  have hw := Below.refl w.heap.size w
  have EA : ∀ {w' : World}, Below w.heap.size w w' → Ents w' w'.heap.size A l := fun h => (ha.below h).more h.size
  have EB : ∀ {w' : World}, Below w.heap.size w w' → Ents w' w'.heap.size B m := fun h => (hb.below h).more h.size
  have H := Lib.hid (And.intro ha hb)
  have HK := Lib.hid (And.intro kc (And.intro kd (And.intro kc2 kd2)))
  clear ha hb kc kd
  by_cases h1 : 500 < l.length
  · go_enter Try.func8, Try.ntmps8
    go_wp2_with fail
    go_ret
    exact ⟨rfl, hw⟩
  by_cases h2 : 500 < m.length
  · go_enter Try.func8, Try.ntmps8
    go_wp2_with fail
    go_ret
    exact ⟨rfl, hw⟩
  have l1 : l.length ≤ 500 := by omega
  have l2 : m.length ≤ 500 := by omega
  obtain ⟨n1, n2⟩ := common_le l m
  have n3 : commonL l m ≤ c := by have := HK.out; omega
  have n4 : commonL l m ≤ d := by have := HK.out; omega
  have q1 : decide (l.take (commonL l m) <+: m) = true := by simpa using common_self l m
  have q2 : decide (m.take (commonL l m) <+: l) = true := by rw [← common_take]; simpa using List.take_prefix _ l
  have q3 : commonL m l = commonL l m := common_comm m l
  have q4 : decide (l <+: m) = ((commonL l m : Int) == (l.length : Int)) := by rw [Bool.eq_iff_iff, decide_eq_true_eq, beq_iff_eq, ← common_pre]; omega
  have t1 : (l.take (commonL l m)).length = commonL l m := by rw [List.length_take]; omega
  have t2 : (m.take (commonL l m)).length = commonL l m := by rw [List.length_take]; omega
  have HT : Hid (∀ x y, l[commonL l m]? = some x → m[commonL l m]? = some y → x ≠ y) := Lib.hid fun x y => common_next l m
  have HO : Hid (commonL l m < l.length → commonL l m < m.length → decide (l.take (commonL l m + 1) <+: m) = false ∧ (l.take (commonL l m + 1)).length = commonL l m + 1) := Lib.hid fun h1 h2 => ⟨by simpa using common_over l m h1 h2, by rw [List.length_take]; omega⟩
  have P1 := fun (w2 : World) (hw2 : Below w.heap.size w w2) => prefix_any (l.take (commonL l m)) m A B c d w2 ((EA hw2).take _) (EB hw2) (by rw [t1]; omega) (by omega) HK.out.2.1 kd2
  have P2 := fun (w2 : World) (hw2 : Below w.heap.size w w2) => prefix_any (m.take (commonL l m)) l B A d c w2 ((EB hw2).take _) (EA hw2) (by rw [t2]; omega) (by omega) HK.out.1 kc2
  rw [q1, t1] at P1
  rw [q2, t2] at P2
  have C0 := fun (w2 : World) (hw2 : Below w.heap.size w w2) => common_any l m A B c d w2 (EA hw2) (EB hw2) (by omega) (by omega)
  have C1 := fun (w2 : World) (hw2 : Below w.heap.size w w2) => common_any m l B A d c w2 (EB hw2) (EA hw2) (by omega) (by omega)
  rw [q3] at C1
  have P3 := fun (w2 : World) (hw2 : Below w.heap.size w w2) => prefix_any l m A B c d w2 (EA hw2) (EB hw2) (by omega) (by omega) HK.out.2.1 kd2
  rw [q4] at P3
  clear q1 q2 q3 q4 t1 t2
  generalize commonL l m = n at *
  have HP := Lib.hid (And.intro P1 (And.intro P2 (And.intro C0 (And.intro C1 P3))))
  clear P1 P2 C0 C1 P3
  go_enter Try.func8, Try.ntmps8
  go_wp2_with fail
  refine (HP.out.2.2.1 _ hw).mono ?_
  rintro e w1 ⟨rfl, hb⟩
  have hw1 := below_trans hw hb hw.size
  clear hb
  go_wp2_with fail
  refine (HP.out.1 _ hw1).mono ?_
  rintro e w2 ⟨rfl, hb⟩
  have hw2 := below_trans hw1 hb hw1.size
  clear hb
  go_wp2_with fail
  refine (HP.out.2.1 _ hw2).mono ?_
  rintro e w3 ⟨rfl, hb⟩
  have hw3 := below_trans hw2 hb hw2.size
  clear hb
  go_wp2_with fail
  by_cases hboth : n < l.length ∧ n < m.length
  · obtain ⟨g1, g2⟩ := hboth
    obtain ⟨b1, o1, x, rfl, hx, FA⟩ := H.out.1.at_ g1
    obtain ⟨b2, o2, y, rfl, hy, FB⟩ := H.out.2.at_ g2
    have hxy : Hid (x ≠ y) := Lib.hid (HT.out x y hx.out hy.out)
    have hd : decide (x = y) = false := by simpa using hxy.out
    have wn : IntKind.i64.wrap ((n : Int) + 1) = (n : Int) + 1 := IntWalk.i64_in _ (by omega)
    have z0 : (0 : Int) ≤ (n : Int) + 1 := by omega
    have zt : ((n : Int) + 1).toNat = n + 1 := by omega
    have z1 : (n : Int) + 1 ≤ (c : Int) := by have := HK.out; omega
    have z2 : n + 1 ≤ c := by have := HK.out; omega
    obtain ⟨ho1, ho2⟩ := HO.out g1 g2
    have P := fun (w2 : World) (hw2 : Below w.heap.size w w2) => prefix_any (l.take (n + 1)) m (some ⟨b1, o1, none⟩) (some ⟨b2, o2, none⟩) c d w2 ((EA hw2).take _) (EB hw2) (by rw [ho2]; omega) (by omega) HK.out.2.1 kd2
    rw [ho1, ho2] at P
    have HPP := Lib.hid P
    clear P ho1 ho2
    refine wp_region_p ([(0, true), (1, true), (2, true), (3, true), (4, true), (5, true), (6, true), (7, true), (8, true), (9, true), (10, true), (11, true), (12, true), (13, true), (14, true), (15, true), (16, true), (17, true), (18, true), (19, true), (20, true), (21, true), (22, true), (23, true), (24, true), (25, true), (26, false), (27, true), (28, true)]) (fun w' => Below w.heap.size w w') (by kernel_rfl) rfl (by kernel_rfl) (by kernel_rfl) (hw3.drew) rfl ?_
    intro KP RP TP hKP hTP hTP'
    simp only [pick, nth]
    go_wp2_with (first
      | (apply SeqP.skip; rfl; simp only [Act.put, List.setIfInBounds_toArray, List.set_cons_zero, List.set_cons_succ])
      | (apply SeqP.aggbin; (with_reducible rfl); (with_reducible exact Try.eqGuardType41); rfl; rfl; rfl; (exact (fun w => eql_ent w x y)); simp only [Act.put, List.setIfInBounds_toArray, List.set_cons_zero, List.set_cons_succ])
      | (apply SeqP.call; rfl; rfl; (intro w2 hw; have hw := hTP _ hw; ((obtain ⟨p0, p1, p2, p3, p4, p5⟩ := FA _ hw; obtain ⟨r0, r1, r2, r3, r4, r5⟩ := FB _ hw)); go_simp; exact ⟨rfl, rfl⟩); (intro w2 hw; have hw := hTP _ hw; ((obtain ⟨p0, p1, p2, p3, p4, p5⟩ := FA _ hw; obtain ⟨r0, r1, r2, r3, r4, r5⟩ := FB _ hw)); (first | fail)); simp only [Act.put, List.setIfInBounds_toArray, List.set_cons_zero, List.set_cons_succ])
      | (apply SeqP.pure; rfl; (intro w2 hw; have hw := hTP _ hw; ((obtain ⟨p0, p1, p2, p3, p4, p5⟩ := FA _ hw; obtain ⟨r0, r1, r2, r3, r4, r5⟩ := FB _ hw)); go_simp; with_reducible rfl); simp only [Act.put, List.setIfInBounds_toArray, List.set_cons_zero, List.set_cons_succ])
      | (apply SeqP.split; rfl; rfl; all_goals (intro hc; simp only [hc]; try simp only [beq_iff_eq, decide_eq_true_eq, beq_eq_false_iff_ne, decide_eq_false_iff_not, bne_iff_ne, ne_eq, Bool.not_eq_true', Bool.not_eq_false', Int.not_le, Int.not_lt, bne_eq_false_iff_eq, Bool.or_eq_true, Bool.and_eq_true, Bool.or_eq_false_iff] at hc)))
    apply SeqP.eff
    · rfl
    intro KE hKE
    go_wp2_with fail
    refine (HPP.out _ hw3.drew).mono ?_
    rintro e w4 ⟨rfl, hb⟩
    have hw4 := below_trans hw3.drew hb hw3.size
    refine hKE _ _ (hTP' _ hw4) ?_
    clear hKE hb
    go_wp2_with (first
      | (apply SeqP.skip; rfl; simp only [Act.put, List.setIfInBounds_toArray, List.set_cons_zero, List.set_cons_succ])
      | (apply SeqP.call; rfl; rfl; (intro w2 hw; have hw := hTP _ hw; (skip); go_simp; exact ⟨rfl, rfl⟩); (intro w2 hw; have hw := hTP _ hw; (skip); (first | fail)); simp only [Act.put, List.setIfInBounds_toArray, List.set_cons_zero, List.set_cons_succ])
      | (apply SeqP.pure; rfl; (intro w2 hw; have hw := hTP _ hw; (skip); go_simp; with_reducible rfl); simp only [Act.put, List.setIfInBounds_toArray, List.set_cons_zero, List.set_cons_succ])
      | (apply SeqP.split; rfl; rfl; all_goals (intro hc; simp only [hc]; try simp only [beq_iff_eq, decide_eq_true_eq, beq_eq_false_iff_ne, decide_eq_false_iff_not, bne_iff_ne, ne_eq, Bool.not_eq_true', Bool.not_eq_false', Int.not_le, Int.not_lt, bne_eq_false_iff_eq, Bool.or_eq_true, Bool.and_eq_true, Bool.or_eq_false_iff] at hc)))
    apply SeqP.nil
    refine hKP _ _ (hTP' _ (hw4)) ?_
    clear hKP hTP hTP'
    clear FA FB HPP wn z0 zt z1 z2 hd
    go_wp2_with fail
    refine (HP.out.2.2.2.1 _ hw4).mono ?_
    rintro e w5 ⟨rfl, hb⟩
    have hw5 := below_trans hw4 hb hw4.size
    clear hb
    go_wp2_with fail
    refine (HP.out.2.2.2.2 _ hw5).mono ?_
    rintro e w6 ⟨rfl, hb⟩
    have hw6 := below_trans hw5 hb hw5.size
    clear hb
    go_wp2_with fail
    refine (works_any _).mono ?_
    rintro e wz ⟨rfl, hb⟩
    go_wp2_with fail
    go_ret
    exact ⟨rfl, below_trans hw6 hb hw6.size⟩
  · rcases Nat.lt_or_ge n l.length with g1 | g1
    all_goals
      try have g2 : m.length ≤ n := by omega
      refine wp_region_p ([(0, true), (1, true), (2, true), (3, true), (4, true), (5, true), (6, true), (7, true), (8, true), (9, true), (10, true), (11, true), (12, true), (13, true), (14, true), (15, true), (16, true), (17, true), (18, true), (19, true), (20, true), (21, true), (22, true), (23, true), (24, true), (25, true), (26, false), (27, true), (28, true)]) (fun w' => Below w.heap.size w w') (by kernel_rfl) rfl (by kernel_rfl) (by kernel_rfl) (hw3.drew) rfl ?_
      intro KP RP TP hKP hTP hTP'
      simp only [pick, nth]
      go_wp2_with (first
        | (apply SeqP.skip; rfl; simp only [Act.put, List.setIfInBounds_toArray, List.set_cons_zero, List.set_cons_succ])
        | (apply SeqP.call; rfl; rfl; (intro w2 hw; have hw := hTP _ hw; (skip); go_simp; exact ⟨rfl, rfl⟩); (intro w2 hw; have hw := hTP _ hw; (skip); (first | fail)); simp only [Act.put, List.setIfInBounds_toArray, List.set_cons_zero, List.set_cons_succ])
        | (apply SeqP.pure; rfl; (intro w2 hw; have hw := hTP _ hw; (skip); go_simp; with_reducible rfl); simp only [Act.put, List.setIfInBounds_toArray, List.set_cons_zero, List.set_cons_succ])
        | (apply SeqP.split; rfl; rfl; all_goals (intro hc; simp only [hc]; try simp only [beq_iff_eq, decide_eq_true_eq, beq_eq_false_iff_ne, decide_eq_false_iff_not, bne_iff_ne, ne_eq, Bool.not_eq_true', Bool.not_eq_false', Int.not_le, Int.not_lt, bne_eq_false_iff_eq, Bool.or_eq_true, Bool.and_eq_true, Bool.or_eq_false_iff] at hc)))
      all_goals first | (exfalso; omega) | skip
      apply SeqP.skip_eff
      · rfl
      · exact hTP' _ (hw3.drew)
      (try simp only [Act.put, List.setIfInBounds_toArray, List.set_cons_zero, List.set_cons_succ])
      go_wp2_with (first
        | (apply SeqP.skip; rfl; simp only [Act.put, List.setIfInBounds_toArray, List.set_cons_zero, List.set_cons_succ])
        | (apply SeqP.call; rfl; rfl; (intro w2 hw; have hw := hTP _ hw; (skip); go_simp; exact ⟨rfl, rfl⟩); (intro w2 hw; have hw := hTP _ hw; (skip); (first | fail)); simp only [Act.put, List.setIfInBounds_toArray, List.set_cons_zero, List.set_cons_succ])
        | (apply SeqP.pure; rfl; (intro w2 hw; have hw := hTP _ hw; (skip); go_simp; with_reducible rfl); simp only [Act.put, List.setIfInBounds_toArray, List.set_cons_zero, List.set_cons_succ])
        | (apply SeqP.split; rfl; rfl; all_goals (intro hc; simp only [hc]; try simp only [beq_iff_eq, decide_eq_true_eq, beq_eq_false_iff_ne, decide_eq_false_iff_not, bne_iff_ne, ne_eq, Bool.not_eq_true', Bool.not_eq_false', Int.not_le, Int.not_lt, bne_eq_false_iff_eq, Bool.or_eq_true, Bool.and_eq_true, Bool.or_eq_false_iff] at hc)))
      all_goals first | (exfalso; omega) | skip
      apply SeqP.nil
      refine hKP _ _ (hTP' _ (hw3.drew)) ?_
      clear hKP hTP hTP'
      clear hboth
      go_wp2_with fail
      refine (HP.out.2.2.2.1 _ hw3.drew).mono ?_
      rintro e w5 ⟨rfl, hb⟩
      have hw5 := below_trans hw3.drew hb hw3.drew.size
      clear hb
      go_wp2_with fail
      refine (HP.out.2.2.2.2 _ hw5).mono ?_
      rintro e w6 ⟨rfl, hb⟩
      have hw6 := below_trans hw5 hb hw5.size
      clear hb
      go_wp2_with fail
      refine (works_any _).mono ?_
      rintro e wz ⟨rfl, hb⟩
      go_wp2_with fail
      go_ret
      exact ⟨rfl, below_trans hw6 hb hw6.size⟩
end Go.Proofs.Ytelkibmiinjokaa
