/-
  The walk over the statement 'DeedsExpect', whole.
-/
import Derived.Test.YtigkfekidmjpbaaProg
import Derived.Test.YtigkfekidmjpbaaSeq
import Derived.WalkKit
import Derived.WalkSpells
import Derived.WalkLawsBesides
import Derived.RowKit3
import Derived.Lib.Hide
import Derived.Test.YtigkfekidmjpbaaDeedsExpectC
set_option linter.unusedSimpArgs false
set_option linter.unusedVariables false
namespace Go.Proofs.Ytigkfekidmjpbaa
open Go.RowKit Go.Sq Go.Arch

theorem code_any {s : St} {o : Ord} (h : o.expect < 0 ∨ o.expect = s.ver) : codeS s o ≠ 2 := by
  unfold codeS
  split
  · split
    · rename_i h1 h2; omega
    · split <;> simp
  · simp

theorem out_any (t s v y0 y1 y3 y4 : Int) (c : Bool) : ∀ w, Calls Try.prog 24 #[.agg #[.int .i64 t, .bool c, .int .i64 s, .int .i64 v], .agg #[.int .i64 y0, .int .i64 y1, .int .i64 (-1), .int .i64 y3, .int .i64 y4]] w fun e w' => OutAny w w' e := fun w => by
  have hne := code_any (s := ⟨t, c, s, v⟩) (o := ⟨y0, y1, -1, y3, y4⟩) (.inl (by simp))
  by_cases h : codeS ⟨t, c, s, v⟩ ⟨y0, y1, -1, y3, y4⟩ = 1
  · refine (decide_yes t s v y0 y1 (-1) y3 y4 c w h).mono fun e w' ho => ?_
    obtain ⟨g, rfl, _, _, _, _, _, _, hb⟩ := ho
    exact ⟨_, _, _, _, _, rfl, by decide, hb⟩
  · refine (decide_no t s v y0 y1 (-1) y3 y4 c w h).mono fun e w' ho => ?_
    obtain ⟨rfl, hb⟩ := ho
    exact ⟨_, _, none, 0, 0, rfl, by simpa using hne, hb⟩

theorem law_expect (t s v x0 x1 x2 x3 x4 y0 y1 y2 y3 y4 : Int) (c : Bool) (w : World) :
    Calls Try.prog 11 #[.agg #[.int .i64 t, .bool c, .int .i64 s, .int .i64 v], .agg #[.int .i64 x0, .int .i64 x1, .int .i64 x2, .int .i64 x3, .int .i64 x4], .agg #[.int .i64 y0, .int .i64 y1, .int .i64 y2, .int .i64 y3, .int .i64 y4]] w fun e w' => e = .returned (.bool true) ∧ Below w.heap.size w w' := by
  cases hm : mayS ⟨t, c, s, v⟩
  · exact expect_bad t s v x0 x1 x2 x3 x4 y0 y1 y2 y3 y4 c w hm
  obtain ⟨_, _, q3, q4⟩ := mayS_bounds hm
  have HC := Lib.hid (out_any t s v y0 y1 y3 y4 c)
  by_cases h : codeS ⟨t, c, s, v⟩ ⟨x0, x1, v, x3, x4⟩ = 1
  · obtain ⟨_, ho, hx, hc⟩ := code_one h
    have hv := applyS_ver hm hc
    have hmp := mayS_apply (e := evOf ⟨x0, x1, v, x3, x4⟩) hm
    have hp : applyS ⟨t, c, s, v⟩ (evOf ⟨x0, x1, v, x3, x4⟩) = ⟨(applyS ⟨t, c, s, v⟩ (evOf ⟨x0, x1, v, x3, x4⟩)).tag, (applyS ⟨t, c, s, v⟩ (evOf ⟨x0, x1, v, x3, x4⟩)).closed, (applyS ⟨t, c, s, v⟩ (evOf ⟨x0, x1, v, x3, x4⟩)).sum, v + 1⟩ := by
      rw [← show (applyS ⟨t, c, s, v⟩ (evOf ⟨x0, x1, v, x3, x4⟩)).ver = v + 1 from hv]
    generalize (applyS ⟨t, c, s, v⟩ (evOf ⟨x0, x1, v, x3, x4⟩)).tag = pt at hp
    generalize (applyS ⟨t, c, s, v⟩ (evOf ⟨x0, x1, v, x3, x4⟩)).closed = pc at hp
    generalize (applyS ⟨t, c, s, v⟩ (evOf ⟨x0, x1, v, x3, x4⟩)).sum = ps at hp
    rw [hp] at hmp
    have HA := Lib.hid (fun w => decide_yes t s v x0 x1 v x3 x4 c w h)
    cases hy : ordOk ⟨y0, y1, v, y3, y4⟩
    · have h7 : codeS ⟨pt, pc, ps, v + 1⟩ ⟨y0, y1, v, y3, y4⟩ = 7 := by simp [codeS, hy]
      have HB := fun w => decide_no pt ps (v + 1) y0 y1 v y3 y4 pc w (by rw [h7]; decide)
      rw [h7] at HB
      exact expect_A7 t s v x0 x1 x2 x3 x4 y0 y1 y2 y3 y4 c w hm _ _ pt ps pc HA hp (Lib.hid HB) HC
    · have h2 : codeS ⟨pt, pc, ps, v + 1⟩ ⟨y0, y1, v, y3, y4⟩ = 2 := by
        have : v ≠ v + 1 := by omega
        simp [codeS, hy, hmp, q3, this]
      have HB := fun w => decide_no pt ps (v + 1) y0 y1 v y3 y4 pc w (by rw [h2]; decide)
      rw [h2] at HB
      exact expect_A2 t s v x0 x1 x2 x3 x4 y0 y1 y2 y3 y4 c w hm _ _ pt ps pc HA hp (Lib.hid HB) HC
  · have hne := code_any (s := ⟨t, c, s, v⟩) (o := ⟨x0, x1, v, x3, x4⟩) (.inr rfl)
    have HA := Lib.hid (fun w => decide_no t s v x0 x1 v x3 x4 c w h)
    have f1 : (codeS ⟨t, c, s, v⟩ ⟨x0, x1, v, x3, x4⟩ != 1) = true := by simpa using h
    have f2 : (codeS ⟨t, c, s, v⟩ ⟨x0, x1, v, x3, x4⟩ == 1) = false := by simpa using h
    have f3 : (codeS ⟨t, c, s, v⟩ ⟨x0, x1, v, x3, x4⟩ != 2) = true := by simpa using hne
    by_cases hb : codeS ⟨t, c, s, v⟩ ⟨y0, y1, v, y3, y4⟩ = 1
    · exact expect_B2 t s v x0 x1 x2 x3 x4 y0 y1 y2 y3 y4 c w hm _ _ _ f1 f2 f3 HA (Lib.hid (fun w => decide_yes t s v y0 y1 v y3 y4 c w hb)) HC
    · exact expect_B1 t s v x0 x1 x2 x3 x4 y0 y1 y2 y3 y4 c w hm _ _ _ _ f1 f2 f3 HA (Lib.hid (fun w => decide_no t s v y0 y1 v y3 y4 c w hb)) HC
end Go.Proofs.Ytigkfekidmjpbaa
