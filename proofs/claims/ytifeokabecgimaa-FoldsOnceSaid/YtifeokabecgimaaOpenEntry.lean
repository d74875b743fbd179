/-
  An entry that comes in, by value.
-/
import Derived.Test.YtifeokabecgimaaOpen2
set_option linter.unusedSimpArgs false
set_option linter.unusedVariables false
set_option maxRecDepth 100000
namespace Go.Proofs.Ytifeokabecgimaa
open Go Go.ChangeShapes Go.WideShapes Go.RowKit Go.Sq Go.Wd Go.Deep
section
variable {H : Type} {enc : TypeId × Value → H} {w : World} {base : Nat} {spare : Nat → Bool} {held : Bool}
theorem open_entry {r : Reach} {b0 : Nat} {v : Value} {d : DataW H} {p : List MemPlace} (hv : Value.okWide Try.prog w r b0 45 v) (h : DataW.Trod enc Try.prog w base spare held 45 v d p) :
    ∃ e : Ent, v = .agg (vals e).toArray ∧ wfEnt e := by
  obtain ⟨⟨l⟩, rfl, hsz⟩ := okWide_struct Try.underlying45 hv
  obtain ⟨fuel, hf⟩ := h
  obtain ⟨e, he, hw⟩ := open_ent (cs := l) hf
  subst he
  exact ⟨e, rfl, hw⟩
end
end Go.Proofs.Ytifeokabecgimaa
