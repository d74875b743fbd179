/-
  Slices of structs that come in, whatever struct.
-/
import Derived.Test.YtifeokabecgimaaOpenRows
import Derived.Test.YtifeokabecgimaaOpen3
import Derived.Test.YtifeokabecgimaaGRow
set_option linter.unusedSimpArgs false
set_option linter.unusedVariables false
set_option maxRecDepth 100000
namespace Go.Sq
open Go Go.ChangeShapes Go.WideShapes Go.RowKit Go.Deep
section
variable {H : Type} {enc : TypeId × Value → H} {P : Program} {w : World} {base : Nat} {spare : Nat → Bool} {held : Bool} {α : Type}

theorem open_sl_in (R : Gr.Enc P α) {q : α → Prop} {k : Nat} {v : Value} {y : DataW H × List MemPlace} (hC : P.cellsOf R.elem = R.size)
    (hdec : ∀ (n : Nat) (cs : List Value) (y : DataW H × List MemPlace), DataW.trod enc P w base spare held n R.elem cs = some y → ∃ a, cs = R.enc a ∧ q a)
    (h : DataW.trod enc P w base spare held k R.slice [v] = some y) :
    ∃ (A : Option Addr) (l : List α) (c : Nat), v = .slice A l.length c ∧ l.length ≤ c ∧ c ≤ 9223372036854775807 ∧ Gr.Sl R w w.heap.size A l ∧ (∀ a ∈ l, q a) ∧ (A = none → c = 0) := by
  obtain ⟨A, len, cap, rfl, h1, h2, h3⟩ := open_rows_in R.und hC R.pos h
  have h2' : cap ≤ 9223372036854775807 := by simp only [maxLen] at h2; omega
  have hnil : A = none → cap = 0 := fun e => by
    subst e
    rcases open_slice R.und h with ⟨hcs, _⟩ | ⟨a, l, c, m, n, D, Pl, hcs, _⟩
    · injection hcs with hcs
      injection hcs
    · injection hcs with hcs
      injection hcs with h
      cases h
  rcases Nat.eq_zero_or_pos len with h0 | h0
  · subst h0
    exact ⟨A, [], cap, rfl, h1, h2', Gr.Sl.nil, by simp, hnil⟩
  · obtain ⟨b, off, rfl, hb, hrow⟩ := h3 h0
    obtain ⟨l, hl, hp⟩ := list_of (p := fun i e => Gr.At R w b (off + i * R.size) e ∧ q e) len (fun i hi => by
      obtain ⟨cs, n, y, hcl, hcell, ht⟩ := hrow i hi
      obtain ⟨a, rfl, hq⟩ := hdec n cs y ht
      exact ⟨a, fun k hk => hcell k hk, hq⟩)
    subst hl
    refine ⟨some ⟨b, off, none⟩, l, cap, rfl, h1, h2', fun _ => ⟨b, off, rfl, hb, fun i e he => (hp i e he).1⟩, fun a ha => ?_, hnil⟩
    obtain ⟨i, hi⟩ := List.getElem?_of_mem ha
    exact (hp i a hi).2
theorem open_sl (R : Gr.Enc P α) {q : α → Prop} {r : Reach} {b0 : Nat} {v : Value} {d : DataW H} {p : List MemPlace} (hC : P.cellsOf R.elem = R.size)
    (hdec : ∀ (n : Nat) (cs : List Value) (y : DataW H × List MemPlace), DataW.trod enc P w base spare held n R.elem cs = some y → ∃ a, cs = R.enc a ∧ q a)
    (hv : Value.okWide P w r b0 R.slice v) (h : DataW.Trod enc P w base spare held R.slice v d p) :
    ∃ (A : Option Addr) (l : List α) (c : Nat), v = .slice A l.length c ∧ l.length ≤ c ∧ c ≤ 9223372036854775807 ∧ Gr.Sl R w w.heap.size A l ∧ (∀ a ∈ l, q a) ∧ (A = none → c = 0) := by
  obtain ⟨a0, len, cap, rfl⟩ := okWide_slice R.und hv
  obtain ⟨fuel, hf⟩ := h
  exact open_sl_in R hC hdec (by simpa [Value.cells] using hf)
end
end Go.Sq
