/-
  The walk over the document's Best.
-/
import Derived.Test.YtelkibmiinjokaaRegs
set_option linter.unusedSimpArgs false
set_option linter.unusedVariables false
set_option maxRecDepth 100000
namespace Go.Proofs.Ytelkibmiinjokaa
open Go.RowKit Go.Sq Go.Wd

set_option maxHeartbeats 2000000 in
theorem rbest_any (l : List RegV) (A : Option Addr) (c : Nat) (w : World) (ha : Regs w w.heap.size A l) (hl : l.length ≤ 200) :
    Calls Try.prog 22 #[.slice A l.length c] w fun e w' => e = .returned (.int .i64 (bestL (l.map rankOf))) ∧ Below w.heap.size w w' := by
  have hw : Below w.heap.size w w := Below.refl _ _
  have H := Lib.hid ha
  clear ha
  go_enter Try.func22, Try.ntmps22
  go_wp2_with fail
  go_loopg [3, 4] l.length (fun k b i wr => ∃ j : Nat, k = l.length - j ∧ j ≤ l.length ∧ i = .int .i64 j ∧ Below w.heap.size w wr ∧ ((j = 0 ∧ b = .int .i64 (-1)) ∨ (0 < j ∧ b = .int .i64 (bestTo (l.map rankOf) (j - 1) : Nat))))
  case atStart => exact ⟨0, rfl, by omega, rfl, hw, .inl ⟨rfl, rfl⟩⟩
  case round =>
    clear hw
    obtain ⟨j, hk, hj, rfl, hwr, hb⟩ := hrel
    have AA : Aside (gk = l.length - j) := hk
    clear hk
    by_cases hlt : j < l.length
    · obtain ⟨b1, o1, x, rfl, hx, FA⟩ := H.out.at_ hlt
      rcases hb with ⟨rfl, rfl⟩ | ⟨hj0, rfl⟩
      · go_wp2_with fail
        refine wp_region_p ([(0, true), (1, true), (2, true), (3, true), (4, true), (5, true), (6, true), (7, true), (8, true), (9, true), (10, true), (11, true), (12, true), (13, true), (14, true), (15, true), (16, true), (17, true), (18, true), (19, true), (20, true), (21, true), (22, true), (23, true), (24, true), (25, true), (26, true), (27, true), (28, true), (29, true), (30, true), (31, true), (32, true), (33, true), (34, true), (35, true), (36, true), (37, true), (38, true), (39, true), (40, true), (41, true), (42, true)]) (fun w' => Below w.heap.size w w') (by kernel_rfl) rfl (by kernel_rfl) (by kernel_rfl) (hwr.drew) rfl ?_
        intro KP RP TP hKP hTP hTP'
        simp only [pick, nth]
        go_wp2_with (first
          | (apply SeqP.skip; rfl; simp only [Act.put, List.setIfInBounds_toArray, List.set_cons_zero, List.set_cons_succ])
          | (apply SeqP.call; rfl; rfl; (intro w2 hw; have hw := hTP _ hw; (skip); go_simp; exact ⟨rfl, rfl⟩); (intro w2 hw; have hw := hTP _ hw; (skip); (first | fail)); simp only [Act.put, List.setIfInBounds_toArray, List.set_cons_zero, List.set_cons_succ])
          | (apply SeqP.pure; rfl; (intro w2 hw; have hw := hTP _ hw; (skip); go_simp; with_reducible rfl); simp only [Act.put, List.setIfInBounds_toArray, List.set_cons_zero, List.set_cons_succ])
          | (apply SeqP.split; rfl; rfl; all_goals (intro hc; simp only [hc]; try simp only [beq_iff_eq, decide_eq_true_eq, beq_eq_false_iff_ne, decide_eq_false_iff_not, bne_iff_ne, ne_eq, Bool.not_eq_true', Bool.not_eq_false', Int.not_le, Int.not_lt, bne_eq_false_iff_eq, Bool.or_eq_true, Bool.and_eq_true, Bool.or_eq_false_iff] at hc)))
        apply SeqP.nil
        refine hKP _ _ (hTP' _ (hwr.drew)) ?_
        clear hKP hTP hTP'
        go_wp2_with fail
        go_roundg (l.length - 1)
        case measure => have hkk := AA.out; omega
        case rel => exact ⟨1, rfl, by omega, by go_num, hwr.drew, .inr ⟨by omega, rfl⟩⟩
      · obtain ⟨j, rfl⟩ : ∃ i, j = i + 1 := ⟨j - 1, by omega⟩
        have hbl := best_le (l.map rankOf) j
        simp only [Nat.add_sub_cancel]
        obtain ⟨b2, o2, m, hab, hm, FB⟩ := H.out.at_ (show bestTo (l.map rankOf) j < l.length by omega)
        cases hab
        have hX : Hid ((l.map rankOf)[j + 1]? = some (rankOf x)) := Lib.hid (by rw [List.getElem?_map, hx.out]; rfl)
        have hM : Hid ((l.map rankOf)[bestTo (l.map rankOf) j]? = some (rankOf m)) := Lib.hid (by rw [List.getElem?_map, hm.out]; rfl)
        have HB : Hid (∃ z, z = bestTo (l.map rankOf) j) := Lib.hid ⟨_, rfl⟩
        obtain ⟨x1, x2, ⟨x3, x4, x5⟩, x6⟩ := x
        obtain ⟨m1, m2, ⟨m3, m4, m5⟩, m6⟩ := m
        have i0 : (0 : Int) ≤ (j : Int) + 1 := by omega
        have i1 : (j : Int) + 1 < (l.length : Int) := by omega
        have key : Hid (bestTo (l.map rankOf) (j + 1) = if Better (x2, (x4 : Int)) (m2, (m4 : Int)) then j + 1 else bestTo (l.map rankOf) j) := Lib.hid (by
          split
          · rename_i h; exact best_yes hX.out hM.out h
          · rename_i h; exact best_no hX.out hM.out h)
        generalize bestTo (l.map rankOf) j = k at *
        have hkl : k < l.length := by omega
        have k1 : (k : Int) < (l.length : Int) := by omega
        have k0 : ¬ (k : Int) < 0 := by omega
        have hcase : m2 < x2 ∨ (m2 = x2 ∧ m4 < x4) ∨ (m2 = x2 ∧ x4 ≤ m4) ∨ x2 < m2 := by omega
        rcases hcase with h | ⟨rfl, h⟩ | ⟨rfl, h⟩ | h
        case' inr.inl => have hirr : ¬ m2 < m2 := by omega
        case' inr.inr.inl => have hirr : ¬ m2 < m2 := by omega
        case' inr.inr.inr => have hne : (x2 == m2) = false := by rw [beq_eq_false_iff_ne]; omega
        all_goals
          go_wp2_with fail
          refine wp_region_p ([(0, true), (1, true), (2, true), (3, true), (4, true), (5, true), (6, true), (7, true), (8, true), (9, true), (10, true), (11, true), (12, true), (13, true), (14, true), (15, true), (16, true), (17, true), (18, true), (19, true), (20, true), (21, true), (22, true), (23, true), (24, true), (25, true), (26, true), (27, true), (28, true), (29, true), (30, true), (31, true), (32, true), (33, true), (34, true), (35, true), (36, true), (37, true), (38, true), (39, true), (40, true), (41, true), (42, true)]) (fun w' => Below w.heap.size w w') (by kernel_rfl) rfl (by kernel_rfl) (by kernel_rfl) (hwr.drew) rfl ?_
          intro KP RP TP hKP hTP hTP'
          simp only [pick, nth]
          go_wp2_with (first
            | (apply SeqP.skip; rfl; simp only [Act.put, List.setIfInBounds_toArray, List.set_cons_zero, List.set_cons_succ])
            | (apply SeqP.call; rfl; rfl; (intro w2 hw; have hw := hTP _ hw; ((obtain ⟨p0, p1, p2, p3⟩ := FA _ hw; obtain ⟨q0, q1, q2, q3⟩ := FB _ hw)); go_simp; exact ⟨rfl, rfl⟩); (intro w2 hw; have hw := hTP _ hw; ((obtain ⟨p0, p1, p2, p3⟩ := FA _ hw; obtain ⟨q0, q1, q2, q3⟩ := FB _ hw)); (first | fail)); simp only [Act.put, List.setIfInBounds_toArray, List.set_cons_zero, List.set_cons_succ])
            | (apply SeqP.pure; rfl; (intro w2 hw; have hw := hTP _ hw; ((obtain ⟨p0, p1, p2, p3⟩ := FA _ hw; obtain ⟨q0, q1, q2, q3⟩ := FB _ hw)); go_simp; with_reducible rfl); simp only [Act.put, List.setIfInBounds_toArray, List.set_cons_zero, List.set_cons_succ])
            | (apply SeqP.split; rfl; rfl; all_goals (intro hc; simp only [hc]; try simp only [beq_iff_eq, decide_eq_true_eq, beq_eq_false_iff_ne, decide_eq_false_iff_not, bne_iff_ne, ne_eq, Bool.not_eq_true', Bool.not_eq_false', Int.not_le, Int.not_lt, bne_eq_false_iff_eq, Bool.or_eq_true, Bool.and_eq_true, Bool.or_eq_false_iff] at hc)))
          all_goals first | (exfalso; omega) | skip
          apply SeqP.nil
          refine hKP _ _ (hTP' _ (hwr.drew)) ?_
          clear hKP hTP hTP'
          clear FA FB
          go_wp2_with fail
          go_roundg (l.length - (j + 1 + 1))
          case measure => have hkk := AA.out; omega
          case rel =>
            refine ⟨j + 1 + 1, rfl, by omega, by go_num, hwr.drew, .inr ⟨by omega, ?_⟩⟩
            have hk := key.out
            simp only [Nat.add_sub_cancel]
            rw [hk]
            first
            | (rw [if_pos (by unfold Better; dsimp only; omega)]; go_num)
            | (rw [if_neg (by unfold Better; dsimp only; omega)])
    · have hj' : j = l.length := by omega
      subst hj'
      have key : Hid (bestL (l.map rankOf) = if l.length = 0 then (-1 : Int) else ((bestTo (l.map rankOf) (l.length - 1) : Nat) : Int)) := Lib.hid (by unfold bestL; rw [List.length_map])
      rcases hb with ⟨h0, rfl⟩ | ⟨hj0, rfl⟩
      · have HK := Lib.hid h0
        clear h0
        go_wp2_with fail
        go_ret
        exact ⟨ret_int (by rw [key.out, if_pos HK.out]), hwr⟩
      · go_wp2_with fail
        go_ret
        exact ⟨ret_int (by rw [key.out, if_neg (by omega)]), hwr⟩
end Go.Proofs.Ytelkibmiinjokaa
