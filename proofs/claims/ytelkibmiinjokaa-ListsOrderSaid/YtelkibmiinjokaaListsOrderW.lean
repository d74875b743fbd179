/-
  The walk over the statement 'ListsOrder'.
-/
import Derived.Test.YtelkibmiinjokaaWorks14
set_option linter.unusedSimpArgs false
set_option linter.unusedVariables false
set_option maxRecDepth 100000
namespace Go.Proofs.Ytelkibmiinjokaa
open Go.RowKit Go.Sq Go.Wd

theorem pre_anti (l m : List Ent) : (decide (l <+: m) && decide (m <+: l)) = decide (l = m) := by
  rw [Bool.eq_iff_iff]
  simp only [Bool.and_eq_true, decide_eq_true_eq]
  constructor
  · rintro ⟨h1, h2⟩
    exact h1.eq_of_length (Nat.le_antisymm h1.length_le h2.length_le)
  · rintro rfl
    exact ⟨List.prefix_refl _, List.prefix_refl _⟩

set_option maxHeartbeats 2000000 in
theorem listsOrder_walk (l m n : List Ent) (A B C : Option Addr) (c d f : Nat) (w : World) (ha : Ents w w.heap.size A l) (hb : Ents w w.heap.size B m) (hc : Ents w w.heap.size C n) (hl : l.length ≤ 9223372036854775807) (hm : m.length ≤ 9223372036854775807) (hn : n.length ≤ 9223372036854775807)
    (kc : l.length ≤ c) (kd : m.length ≤ d) (kf : n.length ≤ f) (kc2 : c ≤ 9223372036854775807) (kd2 : d ≤ 9223372036854775807) (kf2 : f ≤ 9223372036854775807) :
    Calls Try.prog 6 #[.slice A l.length c, .slice B m.length d, .slice C n.length f] w fun e w' => e = .returned (.bool true) ∧ Below w.heap.size w w' := by
  have hw := Below.refl w.heap.size w
  have EA : ∀ {w' : World}, Below w.heap.size w w' → Ents w' w'.heap.size A l := fun h => (ha.below h).more h.size
  have EB : ∀ {w' : World}, Below w.heap.size w w' → Ents w' w'.heap.size B m := fun h => (hb.below h).more h.size
  have EC : ∀ {w' : World}, Below w.heap.size w w' → Ents w' w'.heap.size C n := fun h => (hc.below h).more h.size
  have HK := Lib.hid (And.intro kc (And.intro kd (And.intro kf (And.intro kc2 (And.intro kd2 kf2)))))
  clear ha hb hc kc kd kf kc2 kd2 kf2
  by_cases h1 : 500 < l.length
  · go_enter Try.func6, Try.ntmps6
    go_wp2_with fail
    go_ret
    exact ⟨rfl, hw⟩
  by_cases h2 : 500 < m.length
  · go_enter Try.func6, Try.ntmps6
    go_wp2_with fail
    go_ret
    exact ⟨rfl, hw⟩
  by_cases h3 : 500 < n.length
  · go_enter Try.func6, Try.ntmps6
    go_wp2_with fail
    go_ret
    exact ⟨rfl, hw⟩
  have l1 : l.length ≤ 500 := by omega
  have l2 : m.length ≤ 500 := by omega
  have l3 : n.length ≤ 500 := by omega
  have hanti := pre_anti l m
  have htr : l <+: m → m <+: n → l <+: n := fun h1 h2 => h1.trans h2
  have hself : decide (l <+: l) = true := by simp
  have hnil : decide (([] : List Ent) <+: l) = true := by simp
  go_enter Try.func6, Try.ntmps6
  go_wp2_with fail
  refine (prefix_any l m A B c d _ (EA hw) (EB hw) (by omega) (by omega) HK.out.2.1 HK.out.2.2.2.2.1).mono ?_
  rintro e w1 ⟨rfl, hb⟩
  have hw1 := below_trans hw hb hw.size
  clear hb
  go_wp2_with fail
  refine (prefix_any m l B A d c _ (EB hw1) (EA hw1) (by omega) (by omega) HK.out.1 HK.out.2.2.2.1).mono ?_
  rintro e w2 ⟨rfl, hb⟩
  have hw2 := below_trans hw1 hb hw1.size
  clear hb
  go_wp2_with fail
  refine (prefix_any m n B C d f _ (EB hw2) (EC hw2) (by omega) (by omega) HK.out.2.2.1 HK.out.2.2.2.2.2).mono ?_
  rintro e w3 ⟨rfl, hb⟩
  have hw3 := below_trans hw2 hb hw2.size
  clear hb
  go_wp2_with fail
  refine (prefix_any l l A A c c _ (EA hw3) (EA hw3) (by omega) (by omega) HK.out.1 HK.out.2.2.2.1).mono ?_
  rintro e w4 ⟨rfl, hb⟩
  have hw4 := below_trans hw3 hb hw3.size
  clear hb
  rw [hself]
  go_wp2_with fail
  refine (prefix_any [] l none A 0 c _ Ents.nil (EA hw4) (by decide) (by omega) HK.out.1 HK.out.2.2.2.1).mono ?_
  rintro e w5 ⟨rfl, hb⟩
  have hw5 := below_trans hw4 hb hw4.size
  clear hb
  rw [hnil]
  clear hself hnil hw1 hw2 hw3 hw4
  by_cases p1 : l <+: m
  all_goals by_cases p2 : m <+: l
  all_goals by_cases p3 : m <+: n
  all_goals
    simp only [p1, p2, decide_true, decide_false, Bool.and_true, Bool.true_and, Bool.and_false, Bool.false_and, Bool.and_self] at hanti ⊢
    have ht : l <+: m → m <+: n → decide (l <+: n) = true := fun h1 h2 => by simpa using htr h1 h2
    have HA := Lib.hid (And.intro hanti ht)
    clear hanti ht htr
    go_wp2_with fail
    refine (same_any l m A B c d _ (EA hw5) (EB hw5) (by omega) (by omega)).mono ?_
    rintro e w6 ⟨rfl, hb⟩
    have hw6 := below_trans hw5 hb hw5.size
    clear hb
    rw [← HA.out.1]
    go_wp2_with fail
    first
    | (go_at_call 15
       refine (prefix_any l n A C c f _ (EA hw6) (EC hw6) (by omega) (by omega) HK.out.2.2.1 HK.out.2.2.2.2.2).mono ?_
       rintro e w7 ⟨rfl, hb⟩
       have hw7 := below_trans hw6 hb hw6.size
       clear hb
       rw [HA.out.2 p1 p3]
       go_wp2_with fail
       refine (works_any _).mono ?_
       rintro e wz ⟨rfl, hb⟩
       go_wp2_with fail
       go_ret
       exact ⟨rfl, below_trans hw7 hb hw7.size⟩)
    | (refine (works_any _).mono ?_
       rintro e wz ⟨rfl, hb⟩
       go_wp2_with fail
       go_ret
       exact ⟨rfl, below_trans hw6 hb hw6.size⟩)
end Go.Proofs.Ytelkibmiinjokaa
