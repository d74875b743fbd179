/-
  The walk over the document's 'Decide' for aggregates, whole.
-/
import Derived.Test.YtifeokabecgimaaProg
import Derived.Test.YtifeokabecgimaaSeq
import Derived.WalkKit
import Derived.WalkSpells
import Derived.WalkLawsBesides
import Derived.RowKit3
import Derived.Lib.Hide
import Derived.Test.YtifeokabecgimaaRef12D
set_option linter.unusedSimpArgs false
set_option linter.unusedVariables false
set_option maxRecDepth 100000
namespace Go.Proofs.Ytifeokabecgimaa
open Go.RowKit Go.Sq Go.Arch

theorem ref_decide_no (t s v x0 x1 x2 x3 x4 : Int) (c : Bool) (w : World) (h : codeS ⟨t, c, s, v⟩ ⟨x0, x1, x2, x3, x4⟩ ≠ 1) :
    Calls Try.prog 33 #[.agg #[.int .i64 t, .bool c, .int .i64 s, .int .i64 v], .agg #[.int .i64 x0, .int .i64 x1, .int .i64 x2, .int .i64 x3, .int .i64 x4]] w fun e w' =>
      e = .returned (.agg #[.int .i64 (codeS ⟨t, c, s, v⟩ ⟨x0, x1, x2, x3, x4⟩), .int .i64 (verS ⟨t, c, s, v⟩ ⟨x0, x1, x2, x3, x4⟩), .slice none 0 0]) ∧ Below w.heap.size w w' := by
  cases hm : mayS ⟨t, c, s, v⟩
  · have h1 : codeS ⟨t, c, s, v⟩ ⟨x0, x1, x2, x3, x4⟩ = 7 := by simp [codeS, hm]
    have h2 : verS ⟨t, c, s, v⟩ ⟨x0, x1, x2, x3, x4⟩ = 0 := by simp [verS, hm]
    rw [h1, h2]
    exact ref_decide_A t s v x0 x1 x2 x3 x4 c w hm
  have h2 : verS ⟨t, c, s, v⟩ ⟨x0, x1, x2, x3, x4⟩ = v := by simp [verS, hm, h]
  rw [h2]
  by_cases hx : x3 = 4
  · have hx' : (x3 == 4) = true := by simpa using hx
    have he : (evOf ⟨x0, x1, x2, x3, x4⟩) = ⟨x3, 0⟩ := by simp [evOf, hx]
    cases ho : ordOk ⟨x0, x1, x2, x3, x4⟩
    · have h1 : codeS ⟨t, c, s, v⟩ ⟨x0, x1, x2, x3, x4⟩ = 7 := by simp [codeS, ho]
      rw [h1]
      exact ref_decide_B t s v x0 x1 x2 x3 x4 c w hm ho
    have ho' : errOf (ordOk ⟨x0, x1, x2, x3, x4⟩) = 0 := by rw [ho]; rfl
    by_cases hc : 0 ≤ x2 ∧ x2 ≠ v
    · have h1 : codeS ⟨t, c, s, v⟩ ⟨x0, x1, x2, x3, x4⟩ = 2 := by simp [codeS, hm, ho, hc]
      rw [h1]
      exact ref_decide_C t s v x0 x1 x2 x3 x4 c w hm ho hc.1 (by simpa using hc.2)
    have hcm : comesS ⟨t, c, s, v⟩ ⟨x3, 0⟩ = false := by
      cases hcm : comesS ⟨t, c, s, v⟩ ⟨x3, 0⟩
      · rfl
      · exact absurd (by simp [codeS, hm, ho, hc, he, hcm]) h
    have h1 : codeS ⟨t, c, s, v⟩ ⟨x0, x1, x2, x3, x4⟩ = 3 := by simp [codeS, hm, ho, hc, he, hcm]
    rw [h1]
    by_cases hn : 0 ≤ x2
    · exact ref_decide_D4b t s v x0 x1 x2 x3 x4 c w hm ho hx' hn (by simp; omega) hcm
    · exact ref_decide_D4a t s v x0 x1 x2 x3 x4 c w hm ho hx' (by omega) hcm
  · have hx' : (x3 == 4) = false := by simpa using hx
    cases ho : ordOk ⟨x0, x1, x2, x3, x4⟩
    · have h1 : codeS ⟨t, c, s, v⟩ ⟨x0, x1, x2, x3, x4⟩ = 7 := by simp [codeS, ho]
      rw [h1]
      exact ref_decide_B t s v x0 x1 x2 x3 x4 c w hm ho
    have ho' : errOf (ordOk ⟨x0, x1, x2, x3, x4⟩) = 0 := by rw [ho]; rfl
    by_cases hc : 0 ≤ x2 ∧ x2 ≠ v
    · have h1 : codeS ⟨t, c, s, v⟩ ⟨x0, x1, x2, x3, x4⟩ = 2 := by simp [codeS, hm, ho, hc]
      rw [h1]
      exact ref_decide_C t s v x0 x1 x2 x3 x4 c w hm ho hc.1 (by simpa using hc.2)
    have hcm : comesS ⟨t, c, s, v⟩ ⟨x3, x4⟩ = false := by
      cases hcm : comesS ⟨t, c, s, v⟩ ⟨x3, x4⟩
      · rfl
      · exact absurd (by simp [codeS, hm, ho, hc, evOf, hx, hcm]) h
    have h1 : codeS ⟨t, c, s, v⟩ ⟨x0, x1, x2, x3, x4⟩ = 3 := by simp [codeS, hm, ho, hc, evOf, hx, hcm]
    rw [h1]
    by_cases hn : 0 ≤ x2
    · exact ref_decide_D0b t s v x0 x1 x2 x3 x4 c w hm ho hx' hn (by simp; omega) hcm
    · exact ref_decide_D0a t s v x0 x1 x2 x3 x4 c w hm ho hx' (by omega) hcm


theorem ref_decide_yes (t s v x0 x1 x2 x3 x4 : Int) (c : Bool) (w : World) (h : codeS ⟨t, c, s, v⟩ ⟨x0, x1, x2, x3, x4⟩ = 1) :
    Calls Try.prog 33 #[.agg #[.int .i64 t, .bool c, .int .i64 s, .int .i64 v], .agg #[.int .i64 x0, .int .i64 x1, .int .i64 x2, .int .i64 x3, .int .i64 x4]] w fun e w' =>
      OutNew w w' (v + 1) x3 (evOf ⟨x0, x1, x2, x3, x4⟩).arg e := by
  obtain ⟨hm, ho, hc, hcm⟩ := code_one h
  have ho' : errOf (ordOk ⟨x0, x1, x2, x3, x4⟩) = 0 := by rw [ho]; rfl
  dsimp only at hc
  have hv := applyS_ver hm hcm
  by_cases hx : x3 = 4
  · have hx' : (x3 == 4) = true := by simpa using hx
    have he : (evOf ⟨x0, x1, x2, x3, x4⟩) = ⟨x3, 0⟩ := by simp [evOf, hx]
    rw [he] at hv hcm ⊢
    have hp : applyS ⟨t, c, s, v⟩ ⟨x3, 0⟩ = ⟨(applyS ⟨t, c, s, v⟩ ⟨x3, 0⟩).tag, (applyS ⟨t, c, s, v⟩ ⟨x3, 0⟩).closed, (applyS ⟨t, c, s, v⟩ ⟨x3, 0⟩).sum, v + 1⟩ := by
      rw [← show (applyS ⟨t, c, s, v⟩ ⟨x3, 0⟩).ver = v + 1 from hv]
    rcases hc with hc | hc
    · exact ref_decide_E4a t s v x0 x1 x2 x3 x4 c w hm ho hx' hc hcm
    · by_cases hn : 0 ≤ x2
      · exact ref_decide_E4b t s v x0 x1 x2 x3 x4 c w hm ho hx' hn (by simp [hc]) hcm
      · exact ref_decide_E4a t s v x0 x1 x2 x3 x4 c w hm ho hx' (by omega) hcm
  · have hx' : (x3 == 4) = false := by simpa using hx
    have he : (evOf ⟨x0, x1, x2, x3, x4⟩) = ⟨x3, x4⟩ := by simp [evOf, hx]
    rw [he] at hv hcm ⊢
    have hp : applyS ⟨t, c, s, v⟩ ⟨x3, x4⟩ = ⟨(applyS ⟨t, c, s, v⟩ ⟨x3, x4⟩).tag, (applyS ⟨t, c, s, v⟩ ⟨x3, x4⟩).closed, (applyS ⟨t, c, s, v⟩ ⟨x3, x4⟩).sum, v + 1⟩ := by
      rw [← show (applyS ⟨t, c, s, v⟩ ⟨x3, x4⟩).ver = v + 1 from hv]
    rcases hc with hc | hc
    · exact ref_decide_E0a t s v x0 x1 x2 x3 x4 c w hm ho hx' hc hcm
    · by_cases hn : 0 ≤ x2
      · exact ref_decide_E0b t s v x0 x1 x2 x3 x4 c w hm ho hx' hn (by simp [hc]) hcm
      · exact ref_decide_E0a t s v x0 x1 x2 x3 x4 c w hm ho hx' (by omega) hcm
end Go.Proofs.Ytifeokabecgimaa
