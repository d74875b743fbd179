/-
  The walk over the statement 'DeedsEither', whole.
-/
import Derived.Test.YtigkfekidmjpbaaProg
import Derived.Test.YtigkfekidmjpbaaSeq
import Derived.WalkKit
import Derived.WalkSpells
import Derived.WalkLawsBesides
import Derived.RowKit3
import Derived.Lib.Hide
import Derived.Test.YtigkfekidmjpbaaDeedsEitherW
set_option linter.unusedSimpArgs false
set_option linter.unusedVariables false
namespace Go.Proofs.Ytigkfekidmjpbaa
open Go.RowKit Go.Sq Go.Arch

theorem ap_of {t s v k a : Int} {c : Bool} {q : St} (h : applyS ⟨t, c, s, v⟩ ⟨k, a⟩ = q) :
    Hid (∀ w, Calls Try.prog 28 #[.agg #[.int .i64 t, .bool c, .int .i64 s, .int .i64 v], .agg #[.int .i64 k, .int .i64 a]] w fun e w' => e = .returned (.agg #[.int .i64 q.tag, .bool q.closed, .int .i64 q.sum, .int .i64 q.ver]) ∧ Below w.heap.size w w') :=
  Lib.hid (fun w => by rw [← h]; exact apply_any t s v k a c w)
theorem apply_ne {t s v k a : Int} {c : Bool} (h : applyS ⟨t, c, s, v⟩ ⟨k, a⟩ ≠ ⟨t, c, s, v⟩) :
    mayS ⟨t, c, s, v⟩ = true ∧ comesS ⟨t, c, s, v⟩ ⟨k, a⟩ = true ∧ ∃ pt ps pc, applyS ⟨t, c, s, v⟩ ⟨k, a⟩ = ⟨pt, pc, ps, v + 1⟩ := by
  unfold applyS at h ⊢
  split at h
  · rename_i hc
    rw [if_pos hc]
    exact ⟨hc.1, hc.2, _, _, _, rfl⟩
  · exact absurd rfl h
theorem apply_add {t s v a : Int} {c : Bool} (h : applyS ⟨t, c, s, v⟩ ⟨2, a⟩ ≠ ⟨t, c, s, v⟩) :
    applyS ⟨t, c, s, v⟩ ⟨2, a⟩ = ⟨t, c, s + a, v + 1⟩ ∧ -1099511627776 ≤ s + a ∧ s + a ≤ 1099511627776 := by
  obtain ⟨hm, hc, _⟩ := apply_ne h
  have he : applyS ⟨t, c, s, v⟩ ⟨2, a⟩ = ⟨t, c, s + a, v + 1⟩ := by simp [applyS, hm, hc]
  have := mayS_apply (e := ⟨2, a⟩) hm
  rw [he] at this
  obtain ⟨q1, q2, _, _⟩ := mayS_bounds this
  exact ⟨he, q1, q2⟩
theorem apply_take {t s v a : Int} {c : Bool} (h : applyS ⟨t, c, s, v⟩ ⟨3, a⟩ ≠ ⟨t, c, s, v⟩) :
    applyS ⟨t, c, s, v⟩ ⟨3, a⟩ = ⟨t, c, s - a, v + 1⟩ ∧ -1099511627776 ≤ s - a ∧ s - a ≤ 1099511627776 := by
  obtain ⟨hm, hc, _⟩ := apply_ne h
  have he : applyS ⟨t, c, s, v⟩ ⟨3, a⟩ = ⟨t, c, s - a, v + 1⟩ := by simp [applyS, hm, hc]
  have := mayS_apply (e := ⟨3, a⟩) hm
  rw [he] at this
  obtain ⟨q1, q2, _, _⟩ := mayS_bounds this
  exact ⟨he, q1, q2⟩

theorem either_22 (t s v a0 a1 : Int) (c : Bool) (w : World) (hm : mayS ⟨t, c, s, v⟩ = true) : Calls Try.prog 12 #[.agg #[.int .i64 t, .bool c, .int .i64 s, .int .i64 v], .agg #[.int .i64 2, .int .i64 a0, .int .i64 2, .int .i64 a1]] w fun e w' => e = .returned (.bool true) ∧ Below w.heap.size w w' := by
  by_cases hA : applyS ⟨t, c, s, v⟩ ⟨2, a0⟩ = ⟨t, c, s, v⟩
  · exact either_a22 t s v a0 a1 c _ _ _ _ _ _ _ _ _ _ _ _ w hm (ap_of hA) (ap_of rfl) (ap_of rfl) (ap_of rfl)
  obtain ⟨_, _, pt, ps, pc, eA⟩ := apply_ne hA
  have n1 : (v + 1 == v) = false := by simp; omega
  have n2 : (v + 1 + 1 == v + 1) = false := by simp; omega
  by_cases hB : applyS ⟨pt, pc, ps, v + 1⟩ ⟨2, a1⟩ = ⟨pt, pc, ps, v + 1⟩
  · exact either_b22 t s v a0 a1 c pt ps pc _ _ _ _ _ _ _ _ w hm (ap_of eA) (ap_of hB) (ap_of rfl) (ap_of rfl) n1
  obtain ⟨_, _, qt, qs, qc, eB⟩ := apply_ne hB
  by_cases hC : applyS ⟨t, c, s, v⟩ ⟨2, a1⟩ = ⟨t, c, s, v⟩
  · exact either_c22 t s v a0 a1 c pt ps pc qt qs qc _ _ _ _ w hm (ap_of eA) (ap_of eB) (ap_of hC) (ap_of rfl) n1 n2
  obtain ⟨_, _, rt, rs, rc, eC⟩ := apply_ne hC
  by_cases hD : applyS ⟨rt, rc, rs, v + 1⟩ ⟨2, a0⟩ = ⟨rt, rc, rs, v + 1⟩
  · exact either_d22 t s v a0 a1 c pt ps pc qt qs qc rt rs rc w hm (ap_of eA) (ap_of eB) (ap_of eC) (ap_of hD) n1 n2
  obtain ⟨fA, q1, q2⟩ := apply_add hA
  rw [fA] at eA
  obtain ⟨rfl, rfl, rfl, _⟩ := St.mk.inj eA
  obtain ⟨fB, q3, q4⟩ := apply_add hB
  obtain ⟨fC, _, _⟩ := apply_add hC
  rw [fC] at eC
  obtain ⟨rfl, rfl, rfl, _⟩ := St.mk.inj eC
  obtain ⟨fD, _, _⟩ := apply_add hD
  exact either_e22 t s v a0 a1 c w hm (ap_of fA) (ap_of fB) (ap_of fC) (ap_of fD) n1 n2 q1 q2 q3 q4 (by simp; omega)

theorem either_23 (t s v a0 a1 : Int) (c : Bool) (w : World) (hm : mayS ⟨t, c, s, v⟩ = true) : Calls Try.prog 12 #[.agg #[.int .i64 t, .bool c, .int .i64 s, .int .i64 v], .agg #[.int .i64 2, .int .i64 a0, .int .i64 3, .int .i64 a1]] w fun e w' => e = .returned (.bool true) ∧ Below w.heap.size w w' := by
  by_cases hA : applyS ⟨t, c, s, v⟩ ⟨2, a0⟩ = ⟨t, c, s, v⟩
  · exact either_a23 t s v a0 a1 c _ _ _ _ _ _ _ _ _ _ _ _ w hm (ap_of hA) (ap_of rfl) (ap_of rfl) (ap_of rfl)
  obtain ⟨_, _, pt, ps, pc, eA⟩ := apply_ne hA
  have n1 : (v + 1 == v) = false := by simp; omega
  have n2 : (v + 1 + 1 == v + 1) = false := by simp; omega
  by_cases hB : applyS ⟨pt, pc, ps, v + 1⟩ ⟨3, a1⟩ = ⟨pt, pc, ps, v + 1⟩
  · exact either_b23 t s v a0 a1 c pt ps pc _ _ _ _ _ _ _ _ w hm (ap_of eA) (ap_of hB) (ap_of rfl) (ap_of rfl) n1
  obtain ⟨_, _, qt, qs, qc, eB⟩ := apply_ne hB
  by_cases hC : applyS ⟨t, c, s, v⟩ ⟨3, a1⟩ = ⟨t, c, s, v⟩
  · exact either_c23 t s v a0 a1 c pt ps pc qt qs qc _ _ _ _ w hm (ap_of eA) (ap_of eB) (ap_of hC) (ap_of rfl) n1 n2
  obtain ⟨_, _, rt, rs, rc, eC⟩ := apply_ne hC
  by_cases hD : applyS ⟨rt, rc, rs, v + 1⟩ ⟨2, a0⟩ = ⟨rt, rc, rs, v + 1⟩
  · exact either_d23 t s v a0 a1 c pt ps pc qt qs qc rt rs rc w hm (ap_of eA) (ap_of eB) (ap_of eC) (ap_of hD) n1 n2
  obtain ⟨fA, q1, q2⟩ := apply_add hA
  rw [fA] at eA
  obtain ⟨rfl, rfl, rfl, _⟩ := St.mk.inj eA
  obtain ⟨fB, q3, q4⟩ := apply_take hB
  obtain ⟨fC, _, _⟩ := apply_take hC
  rw [fC] at eC
  obtain ⟨rfl, rfl, rfl, _⟩ := St.mk.inj eC
  obtain ⟨fD, _, _⟩ := apply_add hD
  exact either_e23 t s v a0 a1 c w hm (ap_of fA) (ap_of fB) (ap_of fC) (ap_of fD) n1 n2 q1 q2 q3 q4 (by simp; omega)

theorem either_32 (t s v a0 a1 : Int) (c : Bool) (w : World) (hm : mayS ⟨t, c, s, v⟩ = true) : Calls Try.prog 12 #[.agg #[.int .i64 t, .bool c, .int .i64 s, .int .i64 v], .agg #[.int .i64 3, .int .i64 a0, .int .i64 2, .int .i64 a1]] w fun e w' => e = .returned (.bool true) ∧ Below w.heap.size w w' := by
  by_cases hA : applyS ⟨t, c, s, v⟩ ⟨3, a0⟩ = ⟨t, c, s, v⟩
  · exact either_a32 t s v a0 a1 c _ _ _ _ _ _ _ _ _ _ _ _ w hm (ap_of hA) (ap_of rfl) (ap_of rfl) (ap_of rfl)
  obtain ⟨_, _, pt, ps, pc, eA⟩ := apply_ne hA
  have n1 : (v + 1 == v) = false := by simp; omega
  have n2 : (v + 1 + 1 == v + 1) = false := by simp; omega
  by_cases hB : applyS ⟨pt, pc, ps, v + 1⟩ ⟨2, a1⟩ = ⟨pt, pc, ps, v + 1⟩
  · exact either_b32 t s v a0 a1 c pt ps pc _ _ _ _ _ _ _ _ w hm (ap_of eA) (ap_of hB) (ap_of rfl) (ap_of rfl) n1
  obtain ⟨_, _, qt, qs, qc, eB⟩ := apply_ne hB
  by_cases hC : applyS ⟨t, c, s, v⟩ ⟨2, a1⟩ = ⟨t, c, s, v⟩
  · exact either_c32 t s v a0 a1 c pt ps pc qt qs qc _ _ _ _ w hm (ap_of eA) (ap_of eB) (ap_of hC) (ap_of rfl) n1 n2
  obtain ⟨_, _, rt, rs, rc, eC⟩ := apply_ne hC
  by_cases hD : applyS ⟨rt, rc, rs, v + 1⟩ ⟨3, a0⟩ = ⟨rt, rc, rs, v + 1⟩
  · exact either_d32 t s v a0 a1 c pt ps pc qt qs qc rt rs rc w hm (ap_of eA) (ap_of eB) (ap_of eC) (ap_of hD) n1 n2
  obtain ⟨fA, q1, q2⟩ := apply_take hA
  rw [fA] at eA
  obtain ⟨rfl, rfl, rfl, _⟩ := St.mk.inj eA
  obtain ⟨fB, q3, q4⟩ := apply_add hB
  obtain ⟨fC, _, _⟩ := apply_add hC
  rw [fC] at eC
  obtain ⟨rfl, rfl, rfl, _⟩ := St.mk.inj eC
  obtain ⟨fD, _, _⟩ := apply_take hD
  exact either_e32 t s v a0 a1 c w hm (ap_of fA) (ap_of fB) (ap_of fC) (ap_of fD) n1 n2 q1 q2 q3 q4 (by simp; omega)

theorem either_33 (t s v a0 a1 : Int) (c : Bool) (w : World) (hm : mayS ⟨t, c, s, v⟩ = true) : Calls Try.prog 12 #[.agg #[.int .i64 t, .bool c, .int .i64 s, .int .i64 v], .agg #[.int .i64 3, .int .i64 a0, .int .i64 3, .int .i64 a1]] w fun e w' => e = .returned (.bool true) ∧ Below w.heap.size w w' := by
  by_cases hA : applyS ⟨t, c, s, v⟩ ⟨3, a0⟩ = ⟨t, c, s, v⟩
  · exact either_a33 t s v a0 a1 c _ _ _ _ _ _ _ _ _ _ _ _ w hm (ap_of hA) (ap_of rfl) (ap_of rfl) (ap_of rfl)
  obtain ⟨_, _, pt, ps, pc, eA⟩ := apply_ne hA
  have n1 : (v + 1 == v) = false := by simp; omega
  have n2 : (v + 1 + 1 == v + 1) = false := by simp; omega
  by_cases hB : applyS ⟨pt, pc, ps, v + 1⟩ ⟨3, a1⟩ = ⟨pt, pc, ps, v + 1⟩
  · exact either_b33 t s v a0 a1 c pt ps pc _ _ _ _ _ _ _ _ w hm (ap_of eA) (ap_of hB) (ap_of rfl) (ap_of rfl) n1
  obtain ⟨_, _, qt, qs, qc, eB⟩ := apply_ne hB
  by_cases hC : applyS ⟨t, c, s, v⟩ ⟨3, a1⟩ = ⟨t, c, s, v⟩
  · exact either_c33 t s v a0 a1 c pt ps pc qt qs qc _ _ _ _ w hm (ap_of eA) (ap_of eB) (ap_of hC) (ap_of rfl) n1 n2
  obtain ⟨_, _, rt, rs, rc, eC⟩ := apply_ne hC
  by_cases hD : applyS ⟨rt, rc, rs, v + 1⟩ ⟨3, a0⟩ = ⟨rt, rc, rs, v + 1⟩
  · exact either_d33 t s v a0 a1 c pt ps pc qt qs qc rt rs rc w hm (ap_of eA) (ap_of eB) (ap_of eC) (ap_of hD) n1 n2
  obtain ⟨fA, q1, q2⟩ := apply_take hA
  rw [fA] at eA
  obtain ⟨rfl, rfl, rfl, _⟩ := St.mk.inj eA
  obtain ⟨fB, q3, q4⟩ := apply_take hB
  obtain ⟨fC, _, _⟩ := apply_take hC
  rw [fC] at eC
  obtain ⟨rfl, rfl, rfl, _⟩ := St.mk.inj eC
  obtain ⟨fD, _, _⟩ := apply_take hD
  exact either_e33 t s v a0 a1 c w hm (ap_of fA) (ap_of fB) (ap_of fC) (ap_of fD) n1 n2 q1 q2 q3 q4 (by simp; omega)

theorem law_either (t s v k0 a0 k1 a1 : Int) (c : Bool) (w : World) : Calls Try.prog 12 #[.agg #[.int .i64 t, .bool c, .int .i64 s, .int .i64 v], .agg #[.int .i64 k0, .int .i64 a0, .int .i64 k1, .int .i64 a1]] w fun e w' => e = .returned (.bool true) ∧ Below w.heap.size w w' := by
  cases hm : mayS ⟨t, c, s, v⟩
  · exact either_out t s v k0 a0 k1 a1 c w (.inl hm)
  by_cases h0 : k0 = 2 ∨ k0 = 3
  · by_cases h1 : k1 = 2 ∨ k1 = 3
    · rcases h0 with rfl | rfl <;> rcases h1 with rfl | rfl
      · exact either_22 t s v a0 a1 c w hm
      · exact either_23 t s v a0 a1 c w hm
      · exact either_32 t s v a0 a1 c w hm
      · exact either_33 t s v a0 a1 c w hm
    · refine either_out t s v k0 a0 k1 a1 c w (.inr (.inr ⟨?_, by simp; omega, by simp; omega⟩))
      rcases h0 with rfl | rfl
      · exact .inl (by simp)
      · exact .inr ⟨by simp, by simp⟩
  · exact either_out t s v k0 a0 k1 a1 c w (.inr (.inl ⟨by simp; omega, by simp; omega⟩))
end Go.Proofs.Ytigkfekidmjpbaa
