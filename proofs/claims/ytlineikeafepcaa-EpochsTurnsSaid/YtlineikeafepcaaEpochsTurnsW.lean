/-
  The walk over the statement EpochsTurns.
-/
import Derived.Test.YtlineikeafepcaaEpoWorks
set_option linter.unusedSimpArgs false
set_option linter.unusedVariables false
set_option maxRecDepth 100000
namespace Go.Proofs.Ytlineikeafepcaa
open Go Go.RowKit Go.Sq Go.Wd

theorem epochsTurns_walk (e s n : Int) (w : World) : Calls Try.prog 8 #[.int .i64 e, .int .i64 s, .int .i64 n] w fun r w' => r = .returned (.bool true) ∧ Below w.heap.size w w' := by
  have h1 := next_any e s n w
  have h2 := rnext_any e s n w
  obtain ⟨x, hx⟩ : ∃ x, nextE e s n = x := ⟨_, rfl⟩
  rw [hx] at h1 h2
  obtain ⟨x1, x2⟩ := x
  have HH := Lib.hid (And.intro h1 h2)
  clear h1 h2 hx
  go_enter Try.func8, Try.ntmps8
  go_wp2_with fail
  refine HH.out.1.mono ?_
  rintro r w1 ⟨rfl, rfl⟩
  go_wp2_with fail
  refine HH.out.2.mono ?_
  rintro r w2 ⟨rfl, rfl⟩
  go_wp2_with fail
  refine (of_any e n _).mono ?_
  rintro r w3 ⟨rfl, rfl⟩
  go_wp2_with fail
  refine (rof_any e n _).mono ?_
  rintro r w4 ⟨rfl, rfl⟩
  go_wp2_with fail
  refine (maj_any n _).mono ?_
  rintro r w5 ⟨rfl, rfl⟩
  go_wp2_with fail
  refine (rmaj_any n _).mono ?_
  rintro r w6 ⟨rfl, rfl⟩
  go_wp2_with fail
  refine (works_any _).mono ?_
  rintro r w7 ⟨rfl, hb⟩
  go_wp2_with fail
  go_ret
  exact ⟨rfl, hb⟩
end Go.Proofs.Ytlineikeafepcaa
