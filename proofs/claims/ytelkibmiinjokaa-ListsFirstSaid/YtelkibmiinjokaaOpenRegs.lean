/-
  A slice of registers that comes in.
-/
import Derived.Test.YtelkibmiinjokaaOpen2
import Derived.Test.YtelkibmiinjokaaRegs
set_option linter.unusedSimpArgs false
set_option linter.unusedVariables false
set_option maxRecDepth 100000
namespace Go.Proofs.Ytelkibmiinjokaa
open Go Go.ChangeShapes Go.WideShapes Go.RowKit Go.Deep Go.Sq
section
variable {H : Type} {enc : TypeId × Value → H} {w : World} {base : Nat} {spare : Nat → Bool} {held : Bool}

theorem open_reg {n : Nat} {cs : List Value} {y : DataW H × List MemPlace} (h : DataW.trod enc Try.prog w base spare held n 43 cs = some y) :
    ∃ r : RegV, cs = [.int .i64 r.1, .int .i64 r.2.1, .slice r.2.2.1.1 r.2.2.1.2.1 r.2.2.1.2.2, .int .i64 r.2.2.2] := by
  obtain ⟨hl, m, hf⟩ := cells_fields Try.underlying43 (by kernel_rfl) (by kernel_rfl) h
  obtain ⟨c0, c1, c2, c3, rfl⟩ := len4 hl
  obtain ⟨d0, y0, e0, t0⟩ := hf 0 _ rfl
  obtain ⟨d1, y1, e1, t1⟩ := hf 1 _ rfl
  obtain ⟨d2, y2, e2, t2⟩ := hf 2 _ rfl
  obtain ⟨d3, y3, e3, t3⟩ := hf 3 _ rfl
  cases e0; cases e1; cases e2; cases e3
  obtain ⟨z0, h0, _, _⟩ := DataW.trod_int Try.underlying3 t0
  obtain ⟨z1, h1, _, _⟩ := DataW.trod_int Try.underlying3 t1
  obtain ⟨z3, h3, _, _⟩ := DataW.trod_int Try.underlying3 t3
  cases h0; cases h1; cases h3
  rcases open_slice Try.underlying22 t2 with ⟨h2, _⟩ | ⟨a, l, c, m', n', D, Pl, h2, _⟩
  · cases h2
    exact ⟨(z0, z1, (none, 0, 0), z3), rfl⟩
  · cases h2
    exact ⟨(z0, z1, (some a, l, c), z3), rfl⟩

theorem open_regs {r : Reach} {b0 : Nat} {v : Value} {d : DataW H} {p : List MemPlace} (hv : Value.okWide Try.prog w r b0 27 v) (h : DataW.Trod enc Try.prog w base spare held 27 v d p) :
    ∃ (A : Option Addr) (l : List RegV) (c : Nat), v = .slice A l.length c ∧ l.length ≤ c ∧ c ≤ 9223372036854775807 ∧ Regs w w.heap.size A l := by
  obtain ⟨A, len, cap, rfl, h1, h2, h3⟩ := open_rows_any Try.underlying27 (C := 4) (by kernel_rfl) (by omega) hv h
  have h2' : cap ≤ 9223372036854775807 := by simp only [maxLen] at h2; omega
  rcases Nat.eq_zero_or_pos len with h0 | h0
  · subst h0
    exact ⟨A, [], cap, rfl, h1, h2', fun h => absurd h (by simp)⟩
  · obtain ⟨b, off, rfl, hb, hrow⟩ := h3 h0
    obtain ⟨l, hl, hp⟩ := list_of (p := fun i e => RegAt w b (off + i * 4) e) len (fun i hi => by
      obtain ⟨cs, n, y, hcl, hcell, ht⟩ := hrow i hi
      obtain ⟨e, rfl⟩ := open_reg ht
      exact ⟨e, ⟨hcell 0 (by omega), hcell 1 (by omega), hcell 2 (by omega), hcell 3 (by omega)⟩⟩)
    subst hl
    exact ⟨_, l, cap, rfl, h1, h2', fun _ => ⟨b, off, rfl, hb, fun i e he => hp i e he⟩⟩
end
end Go.Proofs.Ytelkibmiinjokaa
