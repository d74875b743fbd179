/-
  Spots, and logs of orders, that come in.
-/
import Derived.Test.YtifeokabecgimaaOpenGr
import Derived.Test.YtifeokabecgimaaFeedSpec
set_option linter.unusedSimpArgs false
set_option linter.unusedVariables false
set_option maxRecDepth 100000
namespace Go.Proofs.Ytifeokabecgimaa
open Go Go.ChangeShapes Go.WideShapes Go.RowKit Go.Deep Go.Sq Go.Wd Go.Arch
section
variable {H : Type} {enc : TypeId × Value → H} {w : World} {base : Nat} {spare : Nat → Bool} {held : Bool}

theorem dec_spot (n : Nat) (cs : List Value) (y : DataW H × List MemPlace) (h : DataW.trod enc Try.prog w base spare held n 71 cs = some y) : ∃ a : Spt, cs = spotE.enc a ∧ True := by
  obtain ⟨zs, hzl, rfl, _⟩ := ints_of (k := 2) Try.underlying71 (by kernel_rfl) (by kernel_rfl) rfl (by
    intro j f hf
    have hj : j < 2 := (Array.getElem?_eq_some_iff.1 hf).1
    obtain rfl | rfl : j = 0 ∨ j = 1 := by omega
    all_goals
      cases hf
      exact Try.underlying3) h
  obtain ⟨a, b, rfl⟩ := len2 hzl
  exact ⟨(a, b), rfl, trivial⟩
theorem dec_ord (n : Nat) (cs : List Value) (y : DataW H × List MemPlace) (h : DataW.trod enc Try.prog w base spare held n 43 cs = some y) : ∃ a : Ord, cs = ordE.enc a ∧ (Lit.int .i64 a.id).wf = true := by
  obtain ⟨zs, hzl, rfl, hw⟩ := ints_of (k := 5) Try.underlying43 (by kernel_rfl) (by kernel_rfl) rfl (by
    intro j f hf
    have hj : j < 5 := (Array.getElem?_eq_some_iff.1 hf).1
    obtain rfl | rfl | rfl | rfl | rfl : j = 0 ∨ j = 1 ∨ j = 2 ∨ j = 3 ∨ j = 4 := by omega
    all_goals
      cases hf
      exact Try.underlying3) h
  obtain ⟨a, b, c, d, e, rfl⟩ := len5 hzl
  exact ⟨⟨a, b, c, d, e⟩, rfl, hw a (by simp)⟩
theorem open_spots {r : Reach} {b0 : Nat} {v : Value} {d : DataW H} {p : List MemPlace} (hv : Value.okWide Try.prog w r b0 52 v) (h : DataW.Trod enc Try.prog w base spare held 52 v d p) :
    ∃ (A : Option Addr) (l : List Spt) (c : Nat), v = .slice A l.length c ∧ l.length ≤ c ∧ c ≤ 9223372036854775807 ∧ Gr.Sl spotE w w.heap.size A l := by
  obtain ⟨A, l, c, h1, h2, h3, h4, _⟩ := open_sl spotE (q := fun _ => True) (by kernel_rfl) dec_spot hv h
  exact ⟨A, l, c, h1, h2, h3, h4⟩
theorem open_logs22 {r : Reach} {b0 : Nat} {v : Value} {d : DataW H} {p : List MemPlace} (hv : Value.okWide Try.prog w r b0 55 v) (h : DataW.Trod enc Try.prog w base spare held 55 v d p) :
    ∃ (A : Option Addr) (l : List Ord) (c : Nat), v = .agg #[.slice A l.length c] ∧ l.length ≤ c ∧ c ≤ 9223372036854775807 ∧ Gr.Sl ordE w w.heap.size A l ∧ ∀ o ∈ l, (Lit.int .i64 o.id).wf = true := by
  obtain ⟨l, m, rfl, hl, hf⟩ := open_fields Try.underlying55 (by kernel_rfl) (by kernel_rfl) hv h
  obtain ⟨c0, rfl⟩ : ∃ c0, l = [c0] := by
    match l, hl with
    | [c0], _ => exact ⟨c0, rfl⟩
  obtain ⟨_, _, e0, t0⟩ := hf 0 _ rfl
  cases e0
  obtain ⟨A, os, c, rfl, h2, h3, h4, h5, _⟩ := open_sl_in ordE (q := fun o => (Lit.int .i64 o.id).wf = true) (by kernel_rfl) dec_ord t0
  exact ⟨A, os, c, rfl, h2, h3, h4, h5⟩
end
end Go.Proofs.Ytifeokabecgimaa
