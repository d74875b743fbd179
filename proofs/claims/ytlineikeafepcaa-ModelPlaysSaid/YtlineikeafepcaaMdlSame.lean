/-
  The walks over SameOutcome and SameOrders, of the same ones.
-/
import Derived.Test.YtlineikeafepcaaOrdRow
import Derived.Test.YtlineikeafepcaaSame26
import Derived.Test.YtlineikeafepcaaSeqP
import Derived.Deep.LoopGhost
set_option linter.unusedSimpArgs false
set_option linter.unusedVariables false
set_option maxRecDepth 100000
namespace Go.Proofs.Ytlineikeafepcaa
open Go Go.RowKit Go.Sq Go.Wd Go.Arch

theorem EvAt.read {w : World} {B : Nat} {own : Option Nat} {sl : Sl} {evs : List (Int × Int)} (h : EvAt w B own sl evs) : EvAt w 0 none sl evs := by
  rcases h with h | ⟨g, k, a, h1, h2, h3, h4, h5, h6⟩
  · exact .inl h
  · exact .inr ⟨g, k, a, h1, h2, Nat.zero_le _, h4, by simp, h6⟩
theorem EvAt.pure {w w' : World} {B : Nat} {own : Option Nat} {sl : Sl} {evs : List (Int × Int)} (h : EvAt w B own sl evs) (hb : Below w.heap.size w w') : EvAt w' B own sl evs :=
  h.keep (only_of_below hb none) (fun g e => by cases e)
theorem same_out (o : OutS) (s1 s2 : Sl) (w : World) (h1 : EvAt w 0 none s1 o.2.2) (h2 : EvAt w 0 none s2 o.2.2) :
    Calls Try.prog 18 #[.agg (outv o s1).toArray, .agg (outv o s2).toArray] w fun e w' => e = .returned (.bool true) ∧ Below w.heap.size w w' := by
  unfold outv
  rcases h1 with ⟨h1, rfl⟩ | ⟨g, k, a, rfl, e1, _, g2, _, c0, c1, _⟩
  · rcases h2 with ⟨_, rfl⟩ | ⟨g, k, a, rfl, e2, _⟩
    · exact same_nil _ _ _
    · rw [h1] at e2; cases e2
  · rcases h2 with ⟨h2, rfl⟩ | ⟨g', k', a', rfl, e2, _, g2', _, d0, d1, _⟩
    · rw [h2] at e1; cases e1
    · rw [e1] at e2
      cases e2
      exact same_one _ _ _ _ _ _ _ g2 g2' c0 c1 d0 d1

set_option maxHeartbeats 1000000 in
theorem sameords_any (l : List Ord) (A B : Option Addr) (c d : Nat) (w : World) (ha : Ords w w.heap.size A l) (hb : Ords w w.heap.size B l) (hl : l.length ≤ 9223372036854775807) :
    Calls Try.prog 21 #[.slice A l.length c, .slice B l.length d] w fun e w' => e = .returned (.bool true) ∧ Below w.heap.size w w' := by
  have hw : Below w.heap.size w w := Below.refl _ _
  have H := Lib.hid (And.intro ha hb)
  clear ha hb
  go_enter Try.func21, Try.ntmps21
  go_wp2_with fail
  go_loopg [5] l.length (fun k i wr => ∃ j : Nat, k = l.length - j ∧ j ≤ l.length ∧ i = .int .i64 j ∧ Below w.heap.size w wr)
  case atStart => exact ⟨0, rfl, by omega, rfl, hw⟩
  case round =>
    clear hw
    obtain ⟨j, hk, hj, rfl, hwr⟩ := hrel
    have AA : Aside (gk = l.length - j) := hk
    clear hk
    by_cases hlt : j < l.length
    · obtain ⟨b1, o1, x, rfl, hx, _, FA⟩ := H.out.1.at_ hlt
      obtain ⟨b2, o2, y, rfl, hy, _, FB⟩ := H.out.2.at_ hlt
      obtain rfl : x = y := Option.some.inj (hx.out.symm.trans hy.out)
      clear hx hy
      unfold OrdAt at FA FB
      go_wp2_with fail
      refine wp_region_p ([(0, true), (1, true), (2, true), (3, true), (4, true), (5, true), (6, true), (7, true), (8, true)]) (fun w' => Below w.heap.size w w') (by kernel_rfl) rfl (by kernel_rfl) (by kernel_rfl) (hwr.drew) rfl ?_
      intro KP RP TP hKP hTP hTP'
      simp only [pick, nth]
      go_wp2_with (first
        | (apply SeqP.skip; rfl; simp only [Act.put, List.setIfInBounds_toArray, List.set_cons_zero, List.set_cons_succ])
        | (apply SeqP.aggbin; (with_reducible rfl); (with_reducible exact Try.eqGuardType37); rfl; rfl; rfl; (exact (fun w => neq_ord w x)); simp only [Act.put, List.setIfInBounds_toArray, List.set_cons_zero, List.set_cons_succ])
        | (apply SeqP.call; rfl; rfl; (intro w2 hw; have hw := hTP _ hw; ((obtain ⟨p0, p1, p2, p3, p4⟩ := FA _ hw; obtain ⟨q0, q1, q2, q3, q4⟩ := FB _ hw)); go_simp; exact ⟨rfl, rfl⟩); (intro w2 hw; have hw := hTP _ hw; ((obtain ⟨p0, p1, p2, p3, p4⟩ := FA _ hw; obtain ⟨q0, q1, q2, q3, q4⟩ := FB _ hw)); (first | fail)); simp only [Act.put, List.setIfInBounds_toArray, List.set_cons_zero, List.set_cons_succ])
        | (apply SeqP.pure; rfl; (intro w2 hw; have hw := hTP _ hw; ((obtain ⟨p0, p1, p2, p3, p4⟩ := FA _ hw; obtain ⟨q0, q1, q2, q3, q4⟩ := FB _ hw)); go_simp; with_reducible rfl); simp only [Act.put, List.setIfInBounds_toArray, List.set_cons_zero, List.set_cons_succ])
        | (apply SeqP.split; rfl; rfl; all_goals (intro hc; simp only [hc]; try simp only [beq_iff_eq, decide_eq_true_eq, beq_eq_false_iff_ne, decide_eq_false_iff_not, bne_iff_ne, ne_eq, Bool.not_eq_true', Bool.not_eq_false', Int.not_le, Int.not_lt, bne_eq_false_iff_eq, Bool.or_eq_true, Bool.and_eq_true, Bool.or_eq_false_iff] at hc)))
      apply SeqP.nil
      refine hKP _ _ (hTP' _ (hwr.drew)) ?_
      clear hKP hTP hTP'
      clear FA FB
      go_wp2_with fail
      go_roundg (l.length - (j + 1))
      case measure => have hkk := AA.out; omega
      case rel => exact ⟨j + 1, rfl, by omega, by go_num, hwr.drew⟩
    · go_wp2_with fail
      go_ret
      exact ⟨rfl, hwr⟩
end Go.Proofs.Ytlineikeafepcaa
