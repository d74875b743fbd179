/-
  The walk over 'deeds.Apply'.
-/
import Derived.Test.YtifeokabecgimaaProg
import Derived.Test.YtifeokabecgimaaSeq
import Derived.WalkKit
import Derived.WalkSpells
import Derived.WalkLawsBesides
import Derived.RowKit3
import Derived.Lib.Hide
import Derived.Test.YtifeokabecgimaaDeeds
set_option linter.unusedSimpArgs false
set_option linter.unusedVariables false
set_option maxRecDepth 100000
namespace Go.Proofs.Ytifeokabecgimaa
open Go.RowKit Go.Sq Go.Arch

theorem may_any (t s v : Int) (c : Bool) (w : World) :
    Calls Try.prog 38 #[.agg #[.int .i64 t, .bool c, .int .i64 s, .int .i64 v]] w fun e w' => e = .returned (.bool (mayS ⟨t, c, s, v⟩)) ∧ Below w.heap.size w w' := by
  by_cases h0 : t < 1 ∨ 3 < t
  · exact may_none t s v c w h0
  · by_cases h1 : t = 1
    · subst h1; exact may_1 s v c w
    · by_cases h2 : t = 2
      · subst h2; exact may_2 s v c w
      · obtain rfl : t = 3 := by omega
        exact may_3 s v c w

set_option maxHeartbeats 1000000 in
theorem apply_same (t s v k a : Int) (c : Bool) (w : World) (h : mayS ⟨t, c, s, v⟩ = false ∨ c = true ∨ v = 1099511627776) :
    Calls Try.prog 22 #[.agg #[.int .i64 t, .bool c, .int .i64 s, .int .i64 v], .agg #[.int .i64 k, .int .i64 a]] w fun e w' =>
      e = .returned (.agg #[.int .i64 t, .bool c, .int .i64 s, .int .i64 v]) ∧ Below w.heap.size w w' := by
  go_enter Try.func22, Try.ntmps22
  go_wp2_with fail
  refine (may_any _ _ _ _ _).mono ?_
  rintro e w1 ⟨rfl, hb⟩
  have hk : Keeps (w.heap.size + 3) [(⟨w.heap.size, 0, none⟩, .int .i64 t), (⟨w.heap.size, 1, none⟩, .bool c), (⟨w.heap.size, 2, none⟩, .int .i64 s), (⟨w.heap.size, 3, none⟩, .int .i64 v), (⟨w.heap.size + 2, 0, none⟩, .int .i64 0), (⟨w.heap.size + 2, 1, none⟩, .bool false), (⟨w.heap.size + 2, 2, none⟩, .int .i64 0), (⟨w.heap.size + 2, 3, none⟩, .int .i64 0)] w w1 := by
    refine Keeps.below ⟨?_, by simp, by simp [List.forall_mem_cons], by simp [cellsAre_cons, cellsAre_nil, go_sem, World.cell?_alloc_past]⟩ hb
    (repeat (first | with_reducible apply Below.drew | with_reducible refine Below.setCell ?_ (by first | exact Nat.le_refl _ | (simp; done) | (simp; omega) | omega) _ | with_reducible refine Below.alloc ?_ (by first | exact Nat.le_refl _ | (simp; done) | (simp; omega) | omega) _ | with_reducible exact Below.refl _ _ | with_reducible assumption))
  clear hb
  have hk' := hk
  obtain ⟨h1, h2, h3, h4⟩ := hk'
  simp only [cellsAre_cons, cellsAre_nil, and_true] at h4
  have ne : v = 1099511627776 → (v == 1099511627776) = true := by intro h; simp [h]
  by_cases hm : mayS ⟨t, c, s, v⟩ = false
  · clear ne h
    go_wp2
    refine bodyPost_ret (v := .agg #[.int .i64 t, .bool c, .int .i64 s, .int .i64 v]) (by simp only [results, Try.results22]; go_simp) rfl ?_
    exact ⟨rfl, by (repeat (first | with_reducible apply Below.drew | with_reducible refine Below.setCell ?_ (by first | exact Nat.le_refl _ | (simp; done) | (simp; omega) | omega) _ | with_reducible refine Below.alloc ?_ (by first | exact Nat.le_refl _ | (simp; done) | (simp; omega) | omega) _ | with_reducible exact Below.refl _ _ | with_reducible assumption))⟩
  have hm' : mayS ⟨t, c, s, v⟩ = true := by simpa using hm
  have h := h.resolve_left hm
  clear hm
  cases c
  · have h : v = 1099511627776 := by simpa using h
    have he := ne h
    clear ne h
    go_wp2
    refine bodyPost_ret (v := .agg #[.int .i64 t, .bool false, .int .i64 s, .int .i64 v]) (by simp only [results, Try.results22]; go_simp) rfl ?_
    exact ⟨rfl, by (repeat (first | with_reducible apply Below.drew | with_reducible refine Below.setCell ?_ (by first | exact Nat.le_refl _ | (simp; done) | (simp; omega) | omega) _ | with_reducible refine Below.alloc ?_ (by first | exact Nat.le_refl _ | (simp; done) | (simp; omega) | omega) _ | with_reducible exact Below.refl _ _ | with_reducible assumption))⟩
  · clear ne h
    go_wp2
    refine bodyPost_ret (v := .agg #[.int .i64 t, .bool true, .int .i64 s, .int .i64 v]) (by simp only [results, Try.results22]; go_simp) rfl ?_
    exact ⟨rfl, by (repeat (first | with_reducible apply Below.drew | with_reducible refine Below.setCell ?_ (by first | exact Nat.le_refl _ | (simp; done) | (simp; omega) | omega) _ | with_reducible refine Below.alloc ?_ (by first | exact Nat.le_refl _ | (simp; done) | (simp; omega) | omega) _ | with_reducible exact Below.refl _ _ | with_reducible assumption))⟩

end Go.Proofs.Ytifeokabecgimaa
