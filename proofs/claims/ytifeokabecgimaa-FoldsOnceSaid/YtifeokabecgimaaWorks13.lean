/-
  The walk over 'works' of the statements on folds.
-/
import Derived.Test.YtifeokabecgimaaFoldW
import Derived.Test.YtifeokabecgimaaFoldFind
set_option linter.unusedSimpArgs false
set_option linter.unusedVariables false
set_option maxRecDepth 100000
namespace Go.Proofs.Ytifeokabecgimaa
open Go Go.RowKit Go.Sq Go.Wd Go.Arch

def log4 : List Ent := [(0, 5, 0, -1, 1, 1), (0, 6, 0, -1, 2, 3), (0, 6, 0, -1, 2, 3), (0, 7, 0, -1, 3, 9)]
theorem fold4 : foldS log4 = (⟨1, false, -6, 3⟩, [(1, 1, [(1, 1)]), (1, 2, [(2, 3)]), (1, 2, []), (1, 3, [(3, 9)])]) := by kernel_rfl
theorem find6 : firstIn log4 4 6 = some 1 := by kernel_rfl
theorem find8 : firstIn log4 4 8 = none := by kernel_rfl

theorem flat_ents (w : World) (t : TypeId) (l : List Ent) : Ents (w.alloc (.cells (flat l).toArray t)) (w.heap.size + 1) (some ⟨w.heap.size, 0, none⟩) l := fun _ => by
  refine ⟨_, _, rfl, by omega, fun i e he => ?_⟩
  have hb := Blk.new w t (flat l)
  have hc : ∀ k, k < 6 → (w.alloc (.cells (flat l).toArray t)).cell? ⟨w.heap.size, i * 6 + k, none⟩ = (vals e)[k]? := fun k hk => by
    rw [hb.cell, flat_get l i e k he hk]
  unfold EntAt
  rw [Nat.zero_add]
  exact ⟨hc 0 (by omega), hc 1 (by omega), hc 2 (by omega), hc 3 (by omega), hc 4 (by omega), hc 5 (by omega)⟩

set_option maxHeartbeats 4000000 in
theorem works_any (w : World) : Calls Try.prog 19 #[] w fun e w' => e = .returned (.bool true) ∧ Below w.heap.size w w' := by
  have hw : Below w.heap.size w w := Below.refl _ _
  have HE : Ents (w.alloc (.cells (flat log4).toArray 45)) (w.heap.size + 1) (some ⟨w.heap.size, 0, none⟩) log4 := flat_ents w _ log4
  go_enter Try.func19, Try.ntmps19
  go_wp2_with fail
  have hw0 : Below w.heap.size w (w.alloc (.cells (flat log4).toArray 45)) := by (repeat (first | with_reducible apply Below.drew | with_reducible refine Below.setCell ?_ (by first | exact Nat.le_refl _ | (simp; done) | (simp; omega) | omega) _ | with_reducible refine Below.alloc ?_ (by first | exact Nat.le_refl _ | (simp; done) | (simp; omega) | omega) _ | with_reducible exact Below.refl _ _ | with_reducible assumption))
  refine (of_any log4 (some ⟨w.heap.size, 0, none⟩) 4 (w.alloc (.cells (flat log4).toArray 45)) (HE.more (by simp)) (by decide) (by decide)).mono ?_
  rintro e w1 ⟨v, rfl, hO, hb⟩
  rw [fold4] at hO ⊢
  dsimp only [stv] at hO ⊢
  have H1 := HE.below (hb.mono (by simp))
  have hw1 := below_trans hw0 hb (by simp)
  obtain ⟨g, cap, o, sl, hv, ho, _, hg, _, _, he, d0, d1, d2⟩ := hO.read (k := 2) (by decide)
  obtain ⟨g', cap', o', sl', hv', ho', _, _, _, _, _, _, d4, _⟩ := hO.read (k := 3) (by decide)
  rw [hv] at hv'
  cases hv'
  cases hv
  obtain rfl : o = (1, 2, []) := by simpa using ho.symm
  obtain rfl : o' = (1, 3, [(3, 9)]) := by simpa using ho'.symm
  obtain rfl : sl = (none, 0, 0) := by
    rcases he with h | ⟨_, _, _, _, h, _⟩
    · exact h.2
    · cases h
  have z0 : w1.cell? ⟨g, 6, none⟩ = some (.int .i64 1) := d0
  have z1 : w1.cell? ⟨g, 7, none⟩ = some (.int .i64 2) := d1
  have z2 : w1.cell? ⟨g, 8, none⟩ = some (.slice none 0 0) := d2
  have z3 : w1.cell? ⟨g, 10, none⟩ = some (.int .i64 3) := d4
  have hlg : (([(1, 1, [(1, 1)]), (1, 2, [(2, 3)]), (1, 2, []), (1, 3, [(3, 9)])] : List OutS).length) = 4 := rfl
  rw [hlg]
  have hz1 := hb.size
  simp at hz1
  clear d0 d1 d2 d4 he ho ho' hO hlg hb HE
  go_wp2_with fail
  refine (find_any log4 (some ⟨w.heap.size, 0, none⟩) 4 6 _ ((H1.keep (by omega) ((Below.refl _ _).alloc (Nat.le_refl _) _)).more (by simp; omega)) (by decide)).mono ?_
  rintro e w2 ⟨rfl, hb⟩
  have hf6 : firstIn log4 log4.length 6 = some 1 := find6
  have hf8 : firstIn log4 log4.length 8 = none := find8
  rw [hf6]
  simp only [whereK, Option.isSome_some]
  have hwa := below_trans (hw1.alloc hw1.size (.cells #[.int .i64 1, .bool false, .int .i64 (-6), .int .i64 3] 25)) hb (by simp; omega)
  have B1 := (Blk.new w1 25 [.int .i64 1, .bool false, .int .i64 (-6), .int .i64 3]).keep hb
  have y0 := (hb.cell (p := ⟨g, 6, none⟩) (by simp; omega)).trans ((World.cell?_alloc_lt _ _ _ hg).trans z0)
  have y1 := (hb.cell (p := ⟨g, 7, none⟩) (by simp; omega)).trans ((World.cell?_alloc_lt _ _ _ hg).trans z1)
  have y2 := (hb.cell (p := ⟨g, 8, none⟩) (by simp; omega)).trans ((World.cell?_alloc_lt _ _ _ hg).trans z2)
  have y3 := (hb.cell (p := ⟨g, 10, none⟩) (by simp; omega)).trans ((World.cell?_alloc_lt _ _ _ hg).trans z3)
  have H2 := (H1.keep (by omega) ((Below.refl _ _).alloc (Nat.le_refl _) (.cells #[.int .i64 1, .bool false, .int .i64 (-6), .int .i64 3] 25))).keep (by simp; omega) hb
  have hz2 := hb.size
  simp at hz2
  clear hb z0 z1 z2 z3
  go_wp2_with fail
  refine (find_any log4 (some ⟨w.heap.size, 0, none⟩) 4 8 _ (H2.more (by omega)) (by decide)).mono ?_
  rintro e w3 ⟨rfl, hb⟩
  rw [hf8]
  simp only [whereK, Option.isSome_none]
  have hwb := below_trans hwa hb hwa.size
  have B2 := B1.keep hb
  have t0 := B2.cell 0
  have t1 := B2.cell 1
  have t2 := B2.cell 2
  have t3 := B2.cell 3
  have z0 := (hb.cell (p := ⟨g, 6, none⟩) (by simp; omega)).trans y0
  have z1 := (hb.cell (p := ⟨g, 7, none⟩) (by simp; omega)).trans y1
  have z2 := (hb.cell (p := ⟨g, 8, none⟩) (by simp; omega)).trans y2
  have z3 := (hb.cell (p := ⟨g, 10, none⟩) (by simp; omega)).trans y3
  simp at t0 t1 t2 t3
  clear y0 y1 y2 y3 hb H2 H1
  go_wp2_with fail
  go_ret
  exact ⟨rfl, hwb⟩
end Go.Proofs.Ytifeokabecgimaa
