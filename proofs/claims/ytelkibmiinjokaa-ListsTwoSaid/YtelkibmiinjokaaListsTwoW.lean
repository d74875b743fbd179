/-
  The walk over the statement 'ListsTwo'.
-/
import Derived.Test.YtelkibmiinjokaaWorks14
set_option linter.unusedSimpArgs false
set_option linter.unusedVariables false
set_option maxRecDepth 100000
namespace Go.Proofs.Ytelkibmiinjokaa
open Go.RowKit Go.Sq Go.Wd

set_option maxHeartbeats 2000000 in
theorem listsTwo_walk (l m : List Ent) (A B : Option Addr) (c d : Nat) (w : World) (ha : Ents w w.heap.size A l) (hb : Ents w w.heap.size B m) (hl : l.length ≤ 9223372036854775807) (hm : m.length ≤ 9223372036854775807) :
    Calls Try.prog 3 #[.slice A l.length c, .slice B m.length d] w fun e w' => e = .returned (.bool true) ∧ Below w.heap.size w w' := by
  have hw := Below.refl w.heap.size w
  have EA : ∀ {w' : World}, Below w.heap.size w w' → Ents w' w'.heap.size A l := fun h => (ha.below h).more h.size
  have EB : ∀ {w' : World}, Below w.heap.size w w' → Ents w' w'.heap.size B m := fun h => (hb.below h).more h.size
  clear ha hb
  by_cases h1 : 2000 < l.length
  · go_enter Try.func3, Try.ntmps3
    go_wp2_with fail
    go_ret
    exact ⟨rfl, hw⟩
  by_cases h2 : 2000 < m.length
  · go_enter Try.func3, Try.ntmps3
    go_wp2_with fail
    go_ret
    exact ⟨rfl, hw⟩
  have l1 : l.length ≤ 2000 := by omega
  have l2 : m.length ≤ 2000 := by omega
  go_enter Try.func3, Try.ntmps3
  go_wp2_with fail
  refine (twin_any l A c _ (EA hw) l1).mono ?_
  rintro e w1 ⟨g1, k1, rfl, T1, hb1⟩
  go_wp2_with fail
  refine (twin_any m B d _ (EB hb1) l2).mono ?_
  rintro e w2 ⟨g2, k2, rfl, T2, hb2⟩
  have hw2 := below_trans hb1 hb2 hb1.size
  have T1 := T1.keep hb2
  have c1 := T1.cap
  have c2 := T2.cap
  have c3 : k2 ≤ 9223372036854775807 := by have := c2.2; simp only [maxLen] at this; omega
  clear hb1 hb2
  have hC := Lib.hid (And.intro c1 c2)
  clear c1 c2
  go_wp2_with fail
  refine (prefix_any l m _ _ k1 k2 _ T1.ents T2.ents (by omega) (by omega) (by have := hC.out; omega) c3).mono ?_
  rintro e w3 ⟨rfl, hb3⟩
  have hw3 := below_trans hw2 hb3 hw2.size
  have T1 := T1.keep hb3
  have T2 := T2.keep hb3
  clear hb3 hw2
  go_wp2_with fail
  refine (rprefix_any l m A B c d _ (EA hw3) (EB hw3) (by omega) (by omega)).mono ?_
  rintro e w4 ⟨rfl, hb⟩
  have hw4 := below_trans hw3 hb hw3.size
  have T1 := T1.keep hb; have T2 := T2.keep hb
  clear hb
  clear hw3
  generalize decide (l <+: m) = p
  go_wp2_with fail
  refine (common_any l m _ _ k1 k2 _ T1.ents T2.ents (by omega) (by omega)).mono ?_
  rintro e w5 ⟨rfl, hb⟩
  have hw5 := below_trans hw4 hb hw4.size
  have T1 := T1.keep hb; have T2 := T2.keep hb
  clear hb
  clear hw4
  go_wp2_with fail
  refine (rcommon_any l m A B c d _ (EA hw5) (EB hw5) (by omega) (by omega)).mono ?_
  rintro e w6 ⟨rfl, hb⟩
  have hw6 := below_trans hw5 hb hw5.size
  have T1 := T1.keep hb; have T2 := T2.keep hb
  clear hb
  clear hw5
  generalize commonL l m = q
  go_wp2_with fail
  refine (left_any l A _ g1 k1 c _ T1 (EA hw6) l1).mono ?_
  rintro e w7 ⟨rfl, hb⟩
  have hw7 := below_trans hw6 hb hw6.size
  have T2 := T2.keep hb
  clear hb
  clear hw6 T1
  go_wp2_with fail
  refine (left_any m B _ g2 k2 d _ T2 (EB hw7) l2).mono ?_
  rintro e w8 ⟨rfl, hb⟩
  have hw8 := below_trans hw7 hb hw7.size
  clear hb
  clear hw7 T2
  go_wp2_with fail
  refine (works_any _).mono ?_
  rintro e wz ⟨rfl, hb⟩
  go_wp2_with fail
  go_ret
  exact ⟨rfl, below_trans hw8 hb hw8.size⟩
end Go.Proofs.Ytelkibmiinjokaa
