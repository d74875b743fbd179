/-
  The walk over SameEntries.
-/
import Derived.Test.YtifeokabecgimaaEnts
import Derived.Deep.LoopGhost
set_option linter.unusedSimpArgs false
set_option linter.unusedVariables false
set_option maxRecDepth 100000
namespace Go.Proofs.Ytifeokabecgimaa
open Go.RowKit Go.Sq Go.Wd


set_option maxHeartbeats 1000000 in
theorem same_any (l m : List Ent) (A B : Option Addr) (c d : Nat) (w : World) (ha : Ents w w.heap.size A l) (hb : Ents w w.heap.size B m) (hl : l.length ≤ 9223372036854775807) (hm : m.length ≤ 9223372036854775807) :
    Calls Try.prog 35 #[.slice A l.length c, .slice B m.length d] w fun e w' => e = .returned (.bool (decide (l = m))) ∧ Below w.heap.size w w' := by
  have hw : Below w.heap.size w w := Below.refl _ _
  have H := Lib.hid (And.intro ha hb)
  clear ha hb
  by_cases hlm : l.length = m.length
  · have hmn : (l.length == m.length) = true := by simpa using hlm
    have HLM := Lib.hid hlm
    clear hlm
    have hlm1 : l.length ≤ m.length := by have := HLM.out; omega
    have hlm2 : m.length ≤ l.length := by have := HLM.out; omega
    go_enter Try.func35, Try.ntmps35
    go_wp2_with fail
    go_loopg [5] l.length (fun k i wr => ∃ j : Nat, k = l.length - j ∧ j ≤ l.length ∧ i = .int .i64 j ∧ Below w.heap.size w wr ∧ l.take j = m.take j)
    case atStart => exact ⟨0, rfl, by omega, rfl, hw, by simp⟩
    case round =>
      clear hw
      obtain ⟨j, hk, hj, rfl, hwr, ht⟩ := hrel
      have AA : Aside (gk = l.length - j ∧ l.take j = m.take j) := ⟨hk, ht⟩
      clear hk ht
      by_cases hlt : j < l.length
      · have hjm : j < m.length := by omega
        obtain ⟨b1, o1, x, rfl, hx, FA⟩ := H.out.1.at_ hlt
        obtain ⟨b2, o2, y, rfl, hy, FB⟩ := H.out.2.at_ hjm
        go_wp2_with fail
        refine wp_region_p ([(0, true), (1, true), (2, true), (3, true), (4, true), (5, true), (6, true), (7, true), (8, true)]) (fun w' => Below w.heap.size w w') (by kernel_rfl) rfl (by kernel_rfl) (by kernel_rfl) (hwr.drew) rfl ?_
        intro KP RP TP hKP hTP hTP'
        simp only [pick, nth]
        go_wp2_with (first
          | (apply SeqP.skip; rfl; simp only [Act.put, List.setIfInBounds_toArray, List.set_cons_zero, List.set_cons_succ])
          | (apply SeqP.aggbin; (with_reducible rfl); (with_reducible exact Try.eqGuardType45); rfl; rfl; rfl; (exact (fun w => neq_ent w x y)); simp only [Act.put, List.setIfInBounds_toArray, List.set_cons_zero, List.set_cons_succ])
          | (apply SeqP.call; rfl; rfl; (intro w2 hw; have hw := hTP _ hw; ((obtain ⟨p0, p1, p2, p3, p4, p5⟩ := FA _ hw; obtain ⟨q0, q1, q2, q3, q4, q5⟩ := FB _ hw)); go_simp; exact ⟨rfl, rfl⟩); (intro w2 hw; have hw := hTP _ hw; ((obtain ⟨p0, p1, p2, p3, p4, p5⟩ := FA _ hw; obtain ⟨q0, q1, q2, q3, q4, q5⟩ := FB _ hw)); (first | fail)); simp only [Act.put, List.setIfInBounds_toArray, List.set_cons_zero, List.set_cons_succ])
          | (apply SeqP.pure; rfl; (intro w2 hw; have hw := hTP _ hw; ((obtain ⟨p0, p1, p2, p3, p4, p5⟩ := FA _ hw; obtain ⟨q0, q1, q2, q3, q4, q5⟩ := FB _ hw)); go_simp; with_reducible rfl); simp only [Act.put, List.setIfInBounds_toArray, List.set_cons_zero, List.set_cons_succ])
          | (apply SeqP.split; rfl; rfl; all_goals (intro hc; simp only [hc]; try simp only [beq_iff_eq, decide_eq_true_eq, beq_eq_false_iff_ne, decide_eq_false_iff_not, bne_iff_ne, ne_eq, Bool.not_eq_true', Bool.not_eq_false', Int.not_le, Int.not_lt, bne_eq_false_iff_eq, Bool.or_eq_true, Bool.and_eq_true, Bool.or_eq_false_iff] at hc)))
        apply SeqP.nil
        refine hKP _ _ (hTP' _ hwr.drew) ?_
        clear hKP hTP hTP' FA FB
        go_wp2_with fail
        · go_ret
          have hne : x ≠ y := by assumption
          exact ⟨ret_bool (by have := unlike_at hx.out hy.out hne; simp [this]), hwr.drew⟩
        · go_roundg (l.length - (j + 1))
          case measure => have hkk := AA.out.1; omega
          case rel =>
            have hne : ¬ x ≠ y := by assumption
            obtain rfl : x = y := by simpa using hne
            exact ⟨j + 1, rfl, by omega, by go_num, hwr.drew, take_more AA.out.2 hx.out hy.out⟩
      · have hjN : j = l.length := by omega
        have heq : l = m := by
          have h := AA.out.2
          rw [hjN, List.take_length, HLM.out, List.take_length] at h
          exact h
        go_wp2_with fail
        go_ret
        exact ⟨ret_bool (by simp [heq]), hwr⟩
  · have hne : (l.length == m.length) = false := by simpa using hlm
    have hlm' : l ≠ m := fun e => hlm (by rw [e])
    go_enter Try.func35, Try.ntmps35
    go_wp2_with fail
    go_ret
    exact ⟨ret_bool (by simp [hlm']), hw⟩
end Go.Proofs.Ytifeokabecgimaa
