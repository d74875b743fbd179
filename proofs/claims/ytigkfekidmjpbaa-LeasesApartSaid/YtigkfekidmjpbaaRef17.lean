/-
  The walks over the functions of the document's book of leases.
-/
import Derived.Test.YtigkfekidmjpbaaProg
import Derived.Test.YtigkfekidmjpbaaSeq
import Derived.WalkKit
import Derived.WalkSpells
import Derived.WalkLawsBesides
import Derived.RowKit3
import Derived.Lib.Hide
import Derived.Test.YtigkfekidmjpbaaWords
import Derived.Test.YtigkfekidmjpbaaLeases2
set_option linter.unusedSimpArgs false
set_option linter.unusedVariables false
namespace Go.Proofs.Ytigkfekidmjpbaa
open Go.RowKit Go.Sq Go.Wd

/-- THE DOCUMENT'S BOOK in block r: its grace, four grants. -/
def RB (w : World) (r : Nat) (gr : Int) (E U : Nat → Int) : Prop :=
  Blk w r 38 [.int .i64 gr, .int .i64 (E 0), .int .i64 (U 0), .int .i64 (E 1), .int .i64 (U 1), .int .i64 (E 2), .int .i64 (U 2), .int .i64 (E 3), .int .i64 (U 3)]

theorem over_any (now : Int) (h0 : -9223372036854775808 ≤ now) (w : World) : Calls Try.prog 18 #[.int .i64 now] w fun e w' => e = .returned (.int .i64 (afterS now)) ∧ w' = w := by
  go_enter Try.func18, Try.ntmps18
  go_wp2
  all_goals (go_ret; refine ⟨ret_int (by unfold afterS; split <;> omega), rfl⟩)

theorem there_yes (s : Int) (h : 0 ≤ s ∧ s < 4) (w : World) : Calls Try.prog 34 #[.int .i64 s] w fun e w' => e = .returned (.bool true) ∧ w' = w := by
  obtain ⟨h1, h2⟩ := h
  go_enter Try.func34, Try.ntmps34
  go_wp2
  go_ret
  exact ⟨rfl, rfl⟩
theorem there_no (s : Int) (h : ¬ (0 ≤ s ∧ s < 4)) (w : World) : Calls Try.prog 34 #[.int .i64 s] w fun e w' => e = .returned (.bool false) ∧ w' = w := by
  by_cases h1 : 0 ≤ s
  · have h2 : decide (s < 4) = false := by simp; omega
    clear h
    go_enter Try.func34, Try.ntmps34
    go_wp2
    go_ret
    exact ⟨rfl, rfl⟩
  · have h2 : s < 0 := by omega
    clear h
    go_enter Try.func34, Try.ntmps34
    go_wp2
    go_ret
    exact ⟨rfl, rfl⟩

def rmayL (gr : Int) (E U : Nat → Int) (s ep now : Int) : Bool :=
  if now < gr then false else if 0 ≤ s ∧ s < 4 then (decide (E s.toNat = 0) || decide (U s.toNat ≤ now) || decide (E s.toNat = ep)) else true

theorem four (s : Int) (h : 0 ≤ s ∧ s < 4) : s = 0 ∨ s = 1 ∨ s = 2 ∨ s = 3 := by omega

set_option maxHeartbeats 1000000 in
theorem rmay_any (r : Nat) (gr : Int) (E U : Nat → Int) (s ep now : Int) (w : World) (h : RB w r gr E U) :
    Calls Try.prog 23 #[.pointer (some ⟨r, 0, none⟩), .int .i64 s, .int .i64 ep, .int .i64 now] w fun e w' => e = .returned (.bool (rmayL gr E U s ep now)) ∧ Below w.heap.size w w' := by
  have c0 := h.cell 0
  have c1 := h.cell 1
  have c2 := h.cell 2
  have c3 := h.cell 3
  have c4 := h.cell 4
  have c5 := h.cell 5
  have c6 := h.cell 6
  have c7 := h.cell 7
  have c8 := h.cell 8
  simp at c0 c1 c2 c3 c4 c5 c6 c7 c8
  by_cases hg : now < gr
  · go_enter Try.func23, Try.ntmps23
    go_wp2_with fail
    go_ret
    refine ⟨ret_bool (by simp [rmayL, hg]), by (repeat (first | with_reducible apply Below.drew | with_reducible refine Below.setCell ?_ (by first | exact Nat.le_refl _ | (simp; done) | (simp; omega) | omega) _ | with_reducible refine Below.alloc ?_ (by first | exact Nat.le_refl _ | (simp; done) | (simp; omega) | omega) _ | with_reducible exact Below.refl _ _ | with_reducible assumption))⟩
  by_cases hs : 0 ≤ s ∧ s < 4
  · rcases four s hs with rfl | rfl | rfl | rfl
    all_goals
      go_enter Try.func23, Try.ntmps23
      go_wp2_with fail
      refine (there_yes _ (by omega) _).mono ?_
      rintro e w1 ⟨rfl, rfl⟩
      go_wp2_with fail
      all_goals (go_ret; refine ⟨ret_bool ?_, by (repeat (first | with_reducible apply Below.drew | with_reducible refine Below.setCell ?_ (by first | exact Nat.le_refl _ | (simp; done) | (simp; omega) | omega) _ | with_reducible refine Below.alloc ?_ (by first | exact Nat.le_refl _ | (simp; done) | (simp; omega) | omega) _ | with_reducible exact Below.refl _ _ | with_reducible assumption))⟩)
      all_goals ((try simp only [beq_iff_eq, decide_eq_true_eq, beq_eq_false_iff_ne, decide_eq_false_iff_not, bne_iff_ne, ne_eq, Bool.not_eq_true', Bool.not_eq_false', Int.not_le, Int.not_lt, not_false_eq_true, bne_eq_false_iff_eq] at *); rw [Bool.eq_iff_iff]; simp [rmayL, *]; try omega)
  · go_enter Try.func23, Try.ntmps23
    go_wp2_with fail
    refine (there_no _ hs _).mono ?_
    rintro e w1 ⟨rfl, rfl⟩
    go_wp2_with fail
    go_ret
    refine ⟨ret_bool (by simp [rmayL, hg, hs]), by (repeat (first | with_reducible apply Below.drew | with_reducible refine Below.setCell ?_ (by first | exact Nat.le_refl _ | (simp; done) | (simp; omega) | omega) _ | with_reducible refine Below.alloc ?_ (by first | exact Nat.le_refl _ | (simp; done) | (simp; omega) | omega) _ | with_reducible exact Below.refl _ _ | with_reducible assumption))⟩

def rholdL (E U : Nat → Int) (s now : Int) : Int × Bool :=
  if (0 ≤ s ∧ s < 4) ∧ E s.toNat ≠ 0 ∧ now < U s.toNat then (E s.toNat, true) else (0, false)

set_option maxHeartbeats 1000000 in
theorem rholder_any (r : Nat) (gr : Int) (E U : Nat → Int) (s now : Int) (w : World) (h : RB w r gr E U) :
    Calls Try.prog 22 #[.pointer (some ⟨r, 0, none⟩), .int .i64 s, .int .i64 now] w fun e w' => e = .returned (.tuple #[.int .i64 (rholdL E U s now).1, .bool (rholdL E U s now).2]) ∧ Below w.heap.size w w' := by
  have c0 := h.cell 0
  have c1 := h.cell 1
  have c2 := h.cell 2
  have c3 := h.cell 3
  have c4 := h.cell 4
  have c5 := h.cell 5
  have c6 := h.cell 6
  have c7 := h.cell 7
  have c8 := h.cell 8
  simp at c0 c1 c2 c3 c4 c5 c6 c7 c8
  by_cases hs : 0 ≤ s ∧ s < 4
  · rcases four s hs with rfl | rfl | rfl | rfl
    all_goals
      go_enter Try.func22, Try.ntmps22
      go_wp2_with fail
      refine (there_yes _ (by omega) _).mono ?_
      rintro e w1 ⟨rfl, rfl⟩
      go_wp2_with fail
      all_goals
        apply ret_of
        · simp only [results, Try.results22]
          go_simp
          with_reducible rfl
        refine ⟨rfl, ?_⟩
        (try simp only [beq_iff_eq, decide_eq_true_eq, beq_eq_false_iff_ne, decide_eq_false_iff_not, bne_iff_ne, ne_eq, Bool.not_eq_true', Bool.not_eq_false', Int.not_le, Int.not_lt, not_false_eq_true, bne_eq_false_iff_eq] at *)
        refine ⟨?_, by (repeat (first | with_reducible apply Below.drew | with_reducible refine Below.setCell ?_ (by first | exact Nat.le_refl _ | (simp; done) | (simp; omega) | omega) _ | with_reducible refine Below.alloc ?_ (by first | exact Nat.le_refl _ | (simp; done) | (simp; omega) | omega) _ | with_reducible exact Below.refl _ _ | with_reducible assumption))⟩
        simp [rholdL, *]
        try (rw [if_neg (by omega)]; exact ⟨rfl, rfl⟩)
  · go_enter Try.func22, Try.ntmps22
    go_wp2_with fail
    refine (there_no _ hs _).mono ?_
    rintro e w1 ⟨rfl, rfl⟩
    go_wp2_with fail
    apply ret_of
    · simp only [results, Try.results22]
      go_simp
      with_reducible rfl
    refine ⟨rfl, ?_⟩
    refine ⟨by simp [rholdL, hs], by (repeat (first | with_reducible apply Below.drew | with_reducible refine Below.setCell ?_ (by first | exact Nat.le_refl _ | (simp; done) | (simp; omega) | omega) _ | with_reducible refine Below.alloc ?_ (by first | exact Nat.le_refl _ | (simp; done) | (simp; omega) | omega) _ | with_reducible exact Below.refl _ _ | with_reducible assumption))⟩

end Go.Proofs.Ytigkfekidmjpbaa
