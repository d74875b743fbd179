/-
  The walk over the statement 'FoldsFind'.
-/
import Derived.Test.YtifeokabecgimaaWorks13
set_option linter.unusedSimpArgs false
set_option linter.unusedVariables false
set_option maxRecDepth 100000
namespace Go.Proofs.Ytifeokabecgimaa
open Go Go.RowKit Go.Sq Go.Wd Go.Arch

set_option maxHeartbeats 2000000 in
theorem foldsFind_walk (l : List Ent) (A : Option Addr) (c : Nat) (id : Int) (w : World) (ha : Ents w w.heap.size A l) (hl : l.length ≤ 9223372036854775807) :
    Calls Try.prog 4 #[.slice A l.length c, .int .i64 id] w fun e w' => e = .returned (.bool true) ∧ Below w.heap.size w w' := by
  have hw := Below.refl w.heap.size w
  have EA : ∀ {w' : World}, Below w.heap.size w w' → Ents w' w'.heap.size A l := fun h => (ha.below h).more h.size
  clear ha
  by_cases h1 : 2000 < l.length
  · go_enter Try.func4, Try.ntmps4
    go_wp2_with fail
    go_ret
    exact ⟨rfl, hw⟩
  have l1 : l.length ≤ 2000 := by omega
  go_enter Try.func4, Try.ntmps4
  go_wp2_with fail
  refine (twin_any l A c _ (EA hw) l1).mono ?_
  rintro e w1 ⟨g1, k1, rfl, T1, hw1⟩
  go_wp2_with fail
  refine (find_any l _ k1 id _ T1.ents (by omega)).mono ?_
  rintro e w2 ⟨rfl, hb⟩
  have hw2 := below_trans hw1 hb hw1.size
  have T1 := T1.keep hb
  clear hb
  clear hw1
  go_wp2_with fail
  refine (rfind_any l A c id _ (EA hw2) (by omega)).mono ?_
  rintro e w3 ⟨rfl, hb⟩
  have hw3 := below_trans hw2 hb hw2.size
  have T1 := T1.keep hb
  clear hb
  clear hw2
  generalize whereK (firstIn l l.length id) = p
  generalize (firstIn l l.length id).isSome = q
  cases q
  all_goals
    go_wp2_with fail
    refine (left_any l A _ g1 k1 c _ T1 (EA hw3) l1).mono ?_
    rintro e w4 ⟨rfl, hb⟩
    have hw4 := below_trans hw3 hb hw3.size
    clear hb
    go_wp2_with fail
    refine (works_any _).mono ?_
    rintro e wz ⟨rfl, hb⟩
    go_wp2_with fail
    go_ret
    exact ⟨rfl, below_trans hw4 hb hw4.size⟩
end Go.Proofs.Ytifeokabecgimaa
