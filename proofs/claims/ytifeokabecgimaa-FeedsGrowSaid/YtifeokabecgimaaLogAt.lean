/-
  A slice of entries that holds a log.
-/
import Derived.Test.YtifeokabecgimaaEnts
import Derived.Test.YtifeokabecgimaaRowOps
import Derived.Test.YtifeokabecgimaaDeedsSpec
set_option linter.unusedSimpArgs false
set_option linter.unusedVariables false
set_option maxRecDepth 100000
namespace Go.Proofs.Ytifeokabecgimaa
open Go Go.RowKit Go.Sq Go.Wd

abbrev SlcE := Option Addr × Nat × Nat
/-- A slice of entries holds this log. -/
def LogAt (w : World) (B : Nat) (sl : SlcE) (l : List Ent) : Prop := sl.2.1 = l.length ∧ l.length ≤ sl.2.2 ∧ sl.2.2 ≤ 9223372036854775807 ∧ Ents w B sl.1 l

section
variable {w w' : World} {B B' : Nat} {sl : SlcE} {es : List Ent}
theorem LogAt.below (h : LogAt w B sl es) (hb : Below B w w') : LogAt w' B sl es := ⟨h.1, h.2.1, h.2.2.1, h.2.2.2.below hb⟩
theorem LogAt.more (h : LogAt w B sl es) (hB : B ≤ B') : LogAt w B' sl es := ⟨h.1, h.2.1, h.2.2.1, h.2.2.2.more hB⟩
theorem LogAt.keep (h : LogAt w w.heap.size sl es) (hb : Below w.heap.size w w') : LogAt w' w'.heap.size sl es := (h.below hb).more hb.size
theorem LogAt.nil : LogAt w B (none, 0, 0) [] := ⟨rfl, Nat.le_refl _, by simp, Ents.nil⟩
end
theorem LogAt.apart {w w' : World} {B k : Nat} {sl : SlcE} {l : List Ent} (h : LogAt w B sl l) (hB : B ≤ w.heap.size) (hg : w.grownBy w' (some k)) (hne : ∀ b o, sl.1 = some ⟨b, o, none⟩ → b ≠ k) : LogAt w' w'.heap.size sl l := by
  refine ⟨h.1, h.2.1, h.2.2.1, fun h0 => ?_⟩
  obtain ⟨b, off, ha, hb, hE⟩ := h.2.2.2 h0
  have hne' : b ≠ k := hne b off ha
  have hbl := hg.block b (by omega) (fun e => hne' (Option.some.inj e))
  have hc : ∀ j, w'.cell? ⟨b, j, none⟩ = w.cell? ⟨b, j, none⟩ := fun j => World.cell?_of_block (a := ⟨b, j, none⟩) hbl
  refine ⟨b, off, ha, Nat.lt_of_lt_of_le (Nat.lt_of_lt_of_le hb hB) hg.size, fun i e he => ?_⟩
  obtain ⟨k0, k1, k2, k3, k4, k5⟩ := hE i e he
  exact ⟨(hc _).trans k0, (hc _).trans k1, (hc _).trans k2, (hc _).trans k3, (hc _).trans k4, (hc _).trans k5⟩
/-- A log does not lie in a block that is shorter than an entry. -/
theorem LogAt.stored {w w' : World} {g : Nat} {T : TypeId} {cs : List Value} {sl : SlcE} {l : List Ent} (h : LogAt w w.heap.size sl l) (hZ : Blk w g T cs) (hc : cs.length ≤ 5) (hg : w.grownBy w' (some g)) : LogAt w' w'.heap.size sl l := by
  rcases Nat.eq_zero_or_pos l.length with h0 | h0
  · obtain rfl : l = [] := List.eq_nil_of_length_eq_zero h0
    exact ⟨h.1, h.2.1, h.2.2.1, Ents.nil⟩
  · refine h.apart (Nat.le_refl _) hg (fun b o ho hbg => ?_)
    subst hbg
    obtain ⟨b2, off, ha, hb, hE⟩ := h.2.2.2 h0
    rw [ho] at ha
    cases ha
    obtain ⟨_, _, _, _, _, h5⟩ := hE 0 _ (List.getElem?_eq_getElem h0)
    rw [hZ.cell, List.getElem?_eq_none (by omega)] at h5
    cases h5
end Go.Proofs.Ytifeokabecgimaa
