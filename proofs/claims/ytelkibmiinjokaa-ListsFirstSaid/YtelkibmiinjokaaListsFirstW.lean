/-
  The walk over the statement 'ListsFirst'.
-/
import Derived.Test.YtelkibmiinjokaaListsBestW
import Derived.Deep.LoopGhost
set_option linter.unusedSimpArgs false
set_option linter.unusedVariables false
set_option maxRecDepth 100000
namespace Go.Proofs.Ytelkibmiinjokaa
open Go.RowKit Go.Sq Go.Wd

set_option maxHeartbeats 4000000 in
theorem listsFirst_walk (l : List RegV) (A : Option Addr) (c : Nat) (w : World) (ha : Regs w w.heap.size A l) (hl : l.length ≤ 9223372036854775807) :
    Calls Try.prog 9 #[.slice A l.length c] w fun e w' => e = .returned (.bool true) ∧ Below w.heap.size w w' := by
  have hw := Below.refl w.heap.size w
  have H := Lib.hid ha
  have EA : ∀ {w' : World}, Below w.heap.size w w' → Regs w' w'.heap.size A l := fun h => (ha.below h).more h.size
  clear ha
  by_cases h1 : 200 < l.length
  · go_enter Try.func9, Try.ntmps9
    go_wp2_with fail
    go_ret
    exact ⟨rfl, hw⟩
  have l1 : l.length ≤ 200 := by omega
  by_cases h0 : l.length = 0
  · have hb0 : bestL (l.map rankOf) = -1 := by simp [bestL, h0]
    have h0' : l.length ≤ 0 := by omega
    have hz : ((l.length : Int) == 0) = true := by rw [beq_iff_eq]; omega
    obtain rfl := List.eq_nil_of_length_eq_zero h0
    clear h0 h0' hz
    go_enter Try.func9, Try.ntmps9
    go_wp2_with fail
    refine (best_any [] A c _ (EA hw) (by decide)).mono ?_
    rintro e w1 ⟨rfl, hw1⟩
    rw [hb0]
    go_wp2_with fail
    refine (works_any _).mono ?_
    rintro e wz ⟨rfl, hb⟩
    go_wp2_with fail
    go_ret
    exact ⟨rfl, below_trans hw1 hb hw1.size⟩
  have hbL : bestL (l.map rankOf) = (bestTo (l.map rankOf) (l.length - 1) : Nat) := by unfold bestL; rw [List.length_map, if_neg h0]
  have hkl : bestTo (l.map rankOf) (l.length - 1) < l.length := by have := best_le (l.map rankOf) (l.length - 1); omega
  have key : ∀ m, (l.map rankOf)[bestTo (l.map rankOf) (l.length - 1)]? = some m → ∀ i x, (l.map rankOf)[i]? = some x → ¬ Better x m ∧ (i < bestTo (l.map rankOf) (l.length - 1) → Better m x) := by
    intro m hm i x hx
    have := (List.getElem?_eq_some_iff.1 hx).1
    rw [List.length_map] at this
    exact best_is (l.map rankOf) (l.length - 1) (by rw [List.length_map]; omega) m hm i x (by omega) hx
  have KEY := Lib.hid (And.intro key hbL)
  clear key hbL
  have hz : ((l.length : Int) == 0) = false := by rw [beq_eq_false_iff_ne]; omega
  clear h0
  have CB := fun (w1 : World) (h : Below w.heap.size w w1) => best_any l A c w1 (EA h) l1
  rw [KEY.out.2] at CB
  generalize bestTo (l.map rankOf) (l.length - 1) = k at *
  obtain ⟨b2, o2, m, rfl, hm, FB⟩ := H.out.at_ hkl
  have K2 : Hid (∀ i x, l[i]? = some x → ¬ Better (rankOf x) (rankOf m) ∧ (i < k → Better (rankOf m) (rankOf x))) := Lib.hid fun i x hx =>
    KEY.out.1 (rankOf m) (by rw [List.getElem?_map, hm.out]; rfl) i (rankOf x) (by rw [List.getElem?_map, hx]; rfl)
  clear KEY
  obtain ⟨m1, m2, ⟨m3, m4, m5⟩, m6⟩ := m
  have hki : (k : Int) < (l.length : Int) := by omega
  have hk0 : ¬ (k : Int) < 0 := by omega
  have hk0' : (0 : Int) ≤ (k : Int) := by omega
  go_enter Try.func9, Try.ntmps9
  go_wp2_with fail
  refine (CB _ hw).mono ?_
  clear CB
  rintro e w1 ⟨rfl, hw1⟩
  go_wp2_with fail
  go_loopg [4] l.length (fun q i wr => ∃ j : Nat, q = l.length - j ∧ j ≤ l.length ∧ i = .int .i64 j ∧ Below w.heap.size w wr)
  case atStart => exact ⟨0, rfl, by omega, rfl, hw1⟩
  case round =>
    clear hw1
    obtain ⟨j, hq, hj, rfl, hwr⟩ := hrel
    have AA : Aside (gk = l.length - j) := hq
    clear hq
    by_cases hlt : j < l.length
    · obtain ⟨b1, o1, x, hab, hx, FA⟩ := H.out.at_ hlt
      cases hab
      obtain ⟨n1, n2⟩ := K2.out j x hx.out
      obtain ⟨x1, x2, ⟨x3, x4, x5⟩, x6⟩ := x
      have hc : x2 < m2 ∨ (x2 = m2 ∧ x4 < m4) ∨ (x2 = m2 ∧ x4 = m4 ∧ k ≤ j) := by
        simp only [rankOf, Better] at n1 n2
        omega
      clear n1 n2
      rcases hc with h | ⟨h, h'⟩ | ⟨h, h', h''⟩
      case' inl => have hne : (x2 == m2) = false := by rw [beq_eq_false_iff_ne]; omega
      case' inr.inl => subst h
      case' inr.inr => subst h; subst h'
      all_goals
        go_wp2_with fail
        refine wp_region_p ([(0, true), (1, true), (2, true), (3, true), (4, true), (5, true), (6, true), (7, true), (8, true), (9, true), (10, true), (11, true)]) (fun w' => Below w.heap.size w w') (by kernel_rfl) rfl (by kernel_rfl) (by kernel_rfl) (hwr.drew) rfl ?_
        intro KP RP TP hKP hTP hTP'
        simp only [pick, nth]
        go_wp2_with (first
          | (apply SeqP.skip; rfl; simp only [Act.put, List.setIfInBounds_toArray, List.set_cons_zero, List.set_cons_succ])
          | (apply SeqP.call; rfl; rfl; (intro w2 hw; have hw := hTP _ hw; ((obtain ⟨p0, p1, p2, p3⟩ := FA _ hw; obtain ⟨r0, r1, r2, r3⟩ := FB _ hw)); go_simp; exact ⟨rfl, rfl⟩); (intro w2 hw; have hw := hTP _ hw; ((obtain ⟨p0, p1, p2, p3⟩ := FA _ hw; obtain ⟨r0, r1, r2, r3⟩ := FB _ hw)); (first | fail)); simp only [Act.put, List.setIfInBounds_toArray, List.set_cons_zero, List.set_cons_succ])
          | (apply SeqP.pure; rfl; (intro w2 hw; have hw := hTP _ hw; ((obtain ⟨p0, p1, p2, p3⟩ := FA _ hw; obtain ⟨r0, r1, r2, r3⟩ := FB _ hw)); go_simp; with_reducible rfl); simp only [Act.put, List.setIfInBounds_toArray, List.set_cons_zero, List.set_cons_succ])
          | (apply SeqP.split; rfl; rfl; all_goals (intro hc; simp only [hc]; try simp only [beq_iff_eq, decide_eq_true_eq, beq_eq_false_iff_ne, decide_eq_false_iff_not, bne_iff_ne, ne_eq, Bool.not_eq_true', Bool.not_eq_false', Int.not_le, Int.not_lt, bne_eq_false_iff_eq, Bool.or_eq_true, Bool.and_eq_true, Bool.or_eq_false_iff] at hc)))
        apply SeqP.nil
        refine hKP _ _ (hTP' _ (hwr.drew)) ?_
        clear hKP hTP hTP'
        refine abs_at (fun W => Below w.heap.size w W) hwr.drew ?_
        intro w2 hw2
        go_wp2_with fail
        refine wp_region_p ([(0, true), (1, true), (2, true), (3, true), (4, true), (5, true), (6, true), (7, true), (8, true), (9, true), (10, true), (11, true), (12, true), (13, true), (14, true), (15, true), (16, true), (17, true), (18, true), (19, true), (20, true), (21, true), (22, true), (23, true), (24, true), (25, true), (26, true), (27, true), (28, true), (29, true), (30, true), (31, true), (32, true), (33, true), (34, true), (35, true), (36, true), (37, true), (38, true), (39, true), (40, true), (41, true), (42, true), (43, true), (44, true), (45, true), (46, true), (47, true), (48, true), (49, true), (50, true), (51, true)]) (fun w' => Below w.heap.size w w') (by kernel_rfl) rfl (by kernel_rfl) (by kernel_rfl) (hw2.drew) rfl ?_
        intro KP RP TP hKP hTP hTP'
        simp only [pick, nth]
        go_wp2_with (first
          | (apply SeqP.skip; rfl; simp only [Act.put, List.setIfInBounds_toArray, List.set_cons_zero, List.set_cons_succ])
          | (apply SeqP.call; rfl; rfl; (intro w2 hw; have hw := hTP _ hw; ((obtain ⟨p0, p1, p2, p3⟩ := FA _ hw; obtain ⟨r0, r1, r2, r3⟩ := FB _ hw)); go_simp; exact ⟨rfl, rfl⟩); (intro w2 hw; have hw := hTP _ hw; ((obtain ⟨p0, p1, p2, p3⟩ := FA _ hw; obtain ⟨r0, r1, r2, r3⟩ := FB _ hw)); (first | fail)); simp only [Act.put, List.setIfInBounds_toArray, List.set_cons_zero, List.set_cons_succ])
          | (apply SeqP.pure; rfl; (intro w2 hw; have hw := hTP _ hw; ((obtain ⟨p0, p1, p2, p3⟩ := FA _ hw; obtain ⟨r0, r1, r2, r3⟩ := FB _ hw)); go_simp; with_reducible rfl); simp only [Act.put, List.setIfInBounds_toArray, List.set_cons_zero, List.set_cons_succ])
          | (apply SeqP.split; rfl; rfl; all_goals (intro hc; simp only [hc]; try simp only [beq_iff_eq, decide_eq_true_eq, beq_eq_false_iff_ne, decide_eq_false_iff_not, bne_iff_ne, ne_eq, Bool.not_eq_true', Bool.not_eq_false', Int.not_le, Int.not_lt, bne_eq_false_iff_eq, Bool.or_eq_true, Bool.and_eq_true, Bool.or_eq_false_iff] at hc)))
        all_goals first | (exfalso; omega) | skip
        apply SeqP.nil
        refine hKP _ _ (hTP' _ (hw2.drew)) ?_
        clear hKP hTP hTP'
        clear FA
        go_wp2_with fail
        go_roundg (l.length - (j + 1))
        case measure => have hkk := AA.out; omega
        case rel => exact ⟨j + 1, rfl, by omega, by go_num, hw2.drew⟩
    · go_wp2_with fail
      refine (works_any _).mono ?_
      rintro e wz ⟨rfl, hb⟩
      go_wp2_with fail
      go_ret
      exact ⟨rfl, below_trans hwr hb hwr.size⟩
end Go.Proofs.Ytelkibmiinjokaa
