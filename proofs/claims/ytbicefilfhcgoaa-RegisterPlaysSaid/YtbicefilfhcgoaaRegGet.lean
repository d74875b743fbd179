/-
  The document's Apply, told by what regR is.
-/
import Derived.Test.YtbicefilfhcgoaaRegDoc
import Derived.Test.YtbicefilfhcgoaaRegBehind
set_option linter.unusedSimpArgs false
set_option linter.unusedVariables false
set_option maxRecDepth 100000
namespace Go.Proofs.Ytbicefilfhcgoaa
open Go Go.RowKit Go.Sq Go.Wd Go.Arch

theorem doc_get {r q : RegS} {b : Bool} (sl : SlcE) (x : RecV) (w : World) (h : regR (applyR r x.s) = (q, b)) (hl : LogAt w w.heap.size sl r.log) (hx : LogAt w w.heap.size x.es x.ents) (hx2 : x.ents.length ≤ 1000) :
    Calls Try.prog 17 #[.agg (rgv r sl).toArray, .agg (rcv x).toArray] w fun e w' => ∃ s : SlcE, e = .returned (.tuple #[.agg (rgv q s).toArray, .bool b]) ∧ LogAt w' w'.heap.size s q.log ∧ Below w.heap.size w w' := by
  refine (doc_any r sl x w hl hx hx2).mono ?_
  rintro e w1 ⟨s, he, hL, hb⟩
  rw [h] at he hL
  exact ⟨s, he, hL, hb⟩
theorem may_get {r q : RegS} {b : Bool} (sl : SlcE) (x : RecV) (w : World) (h : regR (applyR r x.s) = (q, b)) (hl : LogAt w w.heap.size sl r.log) (hx : LogAt w w.heap.size x.es x.ents) (hx2 : x.ents.length ≤ 1000) :
    Calls Try.prog 20 #[.agg (rgv r sl).toArray, .agg (rcv x).toArray] w fun e w' => e = .returned (.bool b) ∧ Below w.heap.size w w' := by
  refine may_to b sl x w ?_ hl hx hx2
  cases hA : applyR r x.s with
  | none => rw [hA] at h; cases h; rfl
  | some a => rw [hA] at h; cases h; rfl
end Go.Proofs.Ytbicefilfhcgoaa
