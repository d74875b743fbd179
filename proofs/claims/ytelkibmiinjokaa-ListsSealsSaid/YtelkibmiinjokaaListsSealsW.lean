/-
  The walk over the statement 'ListsSeals'.
-/
import Derived.Test.YtelkibmiinjokaaWorks14
set_option linter.unusedSimpArgs false
set_option linter.unusedVariables false
set_option maxRecDepth 100000
namespace Go.Proofs.Ytelkibmiinjokaa
open Go.RowKit Go.Sq Go.Wd

set_option maxHeartbeats 4000000 in
theorem listsSeals_walk (l : List Ent) (A : Option Addr) (c : Nat) (w : World) (ha : Ents w w.heap.size A l) (hl : l.length ≤ 9223372036854775807) :
    Calls Try.prog 5 #[.slice A l.length c] w fun e w' => e = .returned (.bool true) ∧ Below w.heap.size w w' := by
  have hw := Below.refl w.heap.size w
  have EA : ∀ {w' : World}, Below w.heap.size w w' → Ents w' w'.heap.size A l := fun h => (ha.below h).more h.size
  clear ha
  by_cases h1 : 2000 < l.length
  · go_enter Try.func5, Try.ntmps5
    go_wp2_with fail
    go_ret
    exact ⟨rfl, hw⟩
  have l1 : l.length ≤ 2000 := by omega
  go_enter Try.func5, Try.ntmps5
  go_wp2_with fail
  refine (twin_any l A c _ (EA hw) l1).mono ?_
  rintro e w1 ⟨g1, k1, rfl, T1, hw1⟩
  go_wp2_with fail
  refine (seals_any l _ k1 _ T1.ents l1).mono ?_
  rintro e w2 ⟨v1, rfl, O1, hb⟩
  have hlt1 : ∀ g, v1.ownBlock = some g → w1.heap.size ≤ g ∧ g < w2.heap.size := fun g hg => O1.lt g hg
  have hw2 := below_trans hw1 hb hw1.size
  have g1lt := T1.lt
  have T1 := T1.keep hb
  have hb12 := hb.size
  clear hb
  go_wp2_with fail
  refine (rseals_any l A c _ (EA hw2) l1).mono ?_
  rintro e w3 ⟨v2, rfl, O2, hb⟩
  have hw3 := below_trans hw2 hb hw2.size
  have T1 := T1.keep hb
  have O1 := O1.kept (only_of_below hb none) (Classical.em _)
  have hb23 := hb.size
  have hsl : (sealsL l).length ≤ 2000 := by have := sealsTo_len l l.length; unfold sealsL; omega
  clear hb
  go_wp2_with fail
  refine (rising_any l _ k1 _ T1.ents (by omega)).mono ?_
  rintro e w4 ⟨rfl, hb⟩
  have hw4 := below_trans hw3 hb hw3.size
  have T1 := T1.keep hb; have O1 := O1.kept (only_of_below hb none) (Classical.em _); have O2 := O2.kept (only_of_below hb none) (Classical.em _)
  clear hb
  clear hw3
  go_wp2_with fail
  refine (rrising_any l A c _ (EA hw4) (by omega)).mono ?_
  rintro e w5 ⟨rfl, hb⟩
  have hw5 := below_trans hw4 hb hw4.size
  have T1 := T1.keep hb; have O1 := O1.kept (only_of_below hb none) (Classical.em _); have O2 := O2.kept (only_of_below hb none) (Classical.em _)
  clear hb
  clear hw4
  generalize risesB l = rz
  go_wp2_with fail
  refine (sameInts_any (sealsL l) (sealsL l) _ _ _ (Ints.of_own O1) (Ints.of_own O2) (by omega) (by omega)).mono ?_
  rintro e w6 ⟨rfl, hb⟩
  have hw6 := below_trans hw5 hb hw5.size
  have T1 := T1.keep hb; have O1 := O1.kept (only_of_below hb none) (Classical.em _); have O2 := O2.kept (only_of_below hb none) (Classical.em _)
  clear hb
  clear hw5
  rw [show decide (sealsL l = sealsL l) = true from by simp]
  go_wp2_with fail
  refine (left_any l A _ g1 k1 c _ T1 (EA hw6) l1).mono ?_
  rintro e w7 ⟨rfl, hb⟩
  have hw7 := below_trans hw6 hb hw6.size
  have T1 := T1.keep hb; have O1 := O1.kept (only_of_below hb none) (Classical.em _); have O2 := O2.kept (only_of_below hb none) (Classical.em _)
  clear hb
  clear hw6
  have HS : Hid (sealsL l = sealsL l) := Lib.hid rfl
  obtain ⟨A1, q1, rfl⟩ : ∃ A1 q1, v1 = .slice A1 (sealsL l).length q1 := by
    rcases O1.2 with ⟨rfl, h⟩ | ⟨g, cap, cur, rfl, _⟩
    · exact ⟨none, 0, by rw [h]⟩
    · exact ⟨_, _, rfl⟩
  have HT := Lib.hid hlt1
  clear hlt1
  go_wp2_with fail
  go_loopg [6] (sealsL l).length (fun k i wr => ∃ j : Nat, k = (sealsL l).length - j ∧ j ≤ (sealsL l).length ∧ i = .int .i64 j ∧ Below w.heap.size w wr ∧ TwinAt wr w.heap.size g1 k1 l ∧ wr.ownsRow w2.heap.size 3 1 v2 (sealsL l).length (ints (sealsL l)) ∧ ∃ xs, wr.ownsRow w1.heap.size 3 1 (.slice A1 (sealsL l).length q1) (sealsL l).length xs)
  case atStart => exact ⟨0, rfl, by omega, rfl, hw7, T1, O2, _, O1⟩
  case round =>
    clear hw7 T1 O1 O2
    obtain ⟨j, hk, hj, rfl, hwr, T, O2, xs, O1⟩ := hrel
    have AA : Aside (gk = (sealsL l).length - j) := hk
    clear hk
    by_cases hlt : j < (sealsL l).length
    · obtain ⟨g, cap, hv, hgB, hglt⟩ := O1.form (by omega)
      cases hv
      have hxl : xs.length = (sealsL l).length * 1 := O1.1
      obtain ⟨u, hu⟩ : ∃ u, xs[j]? = some u := ⟨_, List.getElem?_eq_getElem (by omega)⟩
      have hc := (O1.cellAt j (by omega)).trans hu
      have hf := O1.frozenAt j
      have hst := O1.stored j (.int .i64 (-9))
      have hg2 := (HT.out g rfl).2
      clear hxl hu
      go_wp2_with fail
      go_roundg ((sealsL l).length - (j + 1))
      case measure => have hkk := AA.out; omega
      case rel =>
        have hgr : wr.grownBy (wr.setCell ⟨g, j, none⟩ (.int .i64 (-9))) (some g) := only_setCell (World.grownBy.refl _ _) (.inl rfl) _
        have hw1s := hw1.size
        refine ⟨j + 1, rfl, by omega, by go_num, hwr.setCell (show w.heap.size ≤ g by omega) _, T.kept hgr (.inr ?_), O2.kept hgr ?_, _, hst.1⟩
        · simp only [Value.ownBlock, ne_eq, Option.some.injEq]; omega
        · cases hv2 : v2.ownBlock with
          | none => exact .inl rfl
          | some g' =>
            refine .inr ?_
            have := (O2.lt g' hv2).1
            simp only [ne_eq, Option.some.injEq]
            omega
    · have hj' : j = (sealsL l).length := by omega
      go_wp2_with fail
      refine (seals_any l _ k1 _ T.ents l1).mono ?_
      rintro e w8 ⟨v3, rfl, O3, hb⟩
      have hw8 := below_trans hwr hb hwr.size
      have O2 := O2.kept (only_of_below hb none) (Classical.em _)
      clear hb
      go_wp2_with fail
      refine (sameInts_any (sealsL l) (sealsL l) _ _ _ (Ints.of_own O3) (Ints.of_own O2) (by omega) (by omega)).mono ?_
      rintro e w9 ⟨rfl, hb⟩
      have hw9 := below_trans hw8 hb hw8.size
      clear hb
      rw [show decide (sealsL l = sealsL l) = true from by simp]
      go_wp2_with fail
      refine (works_any _).mono ?_
      rintro e wz ⟨rfl, hb⟩
      go_wp2_with fail
      go_ret
      exact ⟨rfl, below_trans hw9 hb hw9.size⟩
end Go.Proofs.Ytelkibmiinjokaa
