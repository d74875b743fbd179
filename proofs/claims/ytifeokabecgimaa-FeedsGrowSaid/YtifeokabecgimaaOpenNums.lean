/-
  A slice of numbers as an argument.
-/
import Derived.Test.YtifeokabecgimaaOpen2
set_option linter.unusedSimpArgs false
set_option linter.unusedVariables false
set_option maxRecDepth 100000
namespace Go.Proofs.Ytifeokabecgimaa
open Go Go.ChangeShapes Go.WideShapes Go.RowKit Go.Sq Go.Wd Go.Deep

/-- These numbers stand at A, below block B. -/
def Nums (w : World) (B : Nat) (A : Option Addr) (k : IntKind) (l : List Int) : Prop :=
  0 < l.length → ∃ b off, A = some ⟨b, off, none⟩ ∧ b < B ∧ ∀ i x, l[i]? = some x → w.cell? ⟨b, off + i, none⟩ = some (.int k x)
theorem Nums.below {w w' : World} {B : Nat} {A : Option Addr} {k : IntKind} {l : List Int} (h : Nums w B A k l) (hb : Below B w w') : Nums w' B A k l := fun hl => by
  obtain ⟨b, off, ha, hB, hc⟩ := h hl
  exact ⟨b, off, ha, hB, fun i e he => (hb.cell (p := ⟨b, _, none⟩) hB).trans (hc i e he)⟩
theorem Nums.more {w : World} {B B' : Nat} {A : Option Addr} {k : IntKind} {l : List Int} (h : Nums w B A k l) (hB : B ≤ B') : Nums w B' A k l := fun hl => by
  obtain ⟨b, off, ha, hb, hc⟩ := h hl
  exact ⟨b, off, ha, by omega, hc⟩
/-- One of them. -/
theorem Nums.at_ {w : World} {B : Nat} {A : Option Addr} {k : IntKind} {l : List Int} (h : Nums w B A k l) {j : Nat} (hj : j < l.length) :
    ∃ b off x, A = some ⟨b, off, none⟩ ∧ Hid (l[j]? = some x) ∧ ∀ w', Below B w w' → w'.cell? ⟨b, off + j, none⟩ = some (.int k x) := by
  obtain ⟨b, off, ha, hB, hc⟩ := h (by omega)
  have he := List.getElem?_eq_getElem hj
  exact ⟨b, off, _, ha, Lib.hid he, fun w' hb => (hb.cell (p := ⟨b, _, none⟩) hB).trans (hc j _ he)⟩
section
variable {H : Type} {enc : TypeId × Value → H} {P : Program} {w : World} {base : Nat} {spare : Nat → Bool} {held : Bool}
theorem open_slice_nums {r : Reach} {b0 : Nat} {t e : TypeId} {k : IntKind} {v : Value} {d : DataW H} {p : List MemPlace} (ht : P.underlying t = some (.slice e)) (he : P.underlying e = some (.int k))
    (hC : P.cellsOf e = 1) (hv : Value.okWide P w r b0 t v) (h : DataW.Trod enc P w base spare held t v d p) :
    ∃ (A : Option Addr) (l : List Int) (c : Nat), v = .slice A l.length c ∧ l.length ≤ c ∧ c ≤ 9223372036854775807 ∧ Nums w w.heap.size A k l ∧ ∀ x ∈ l, (Lit.int k x).wf = true := by
  obtain ⟨A, len, cap, rfl, h1, h2, h3⟩ := open_rows_any ht (C := 1) hC (by omega) hv h
  have h2' : cap ≤ 9223372036854775807 := by simp only [maxLen] at h2; omega
  rcases Nat.eq_zero_or_pos len with h0 | h0
  · subst h0
    exact ⟨A, [], cap, rfl, h1, h2', fun h => absurd h (by simp), by simp⟩
  · obtain ⟨b, off, rfl, hb, hrow⟩ := h3 h0
    obtain ⟨l, hl, hp⟩ := list_of (p := fun i x => w.cell? ⟨b, off + i, none⟩ = some (.int k x) ∧ (Lit.int k x).wf = true) len (fun i hi => by
      obtain ⟨cs, n, y, hcl, hcell, ht⟩ := hrow i hi
      obtain ⟨z, hz, _, hw⟩ := DataW.trod_int he ht
      refine ⟨z, ?_, hw⟩
      have := hcell 0 (by omega)
      rw [hz] at this
      simpa using this)
    subst hl
    refine ⟨_, l, cap, rfl, h1, h2', fun _ => ⟨b, off, rfl, hb, fun i e he => (hp i e he).1⟩, fun e he => ?_⟩
    obtain ⟨i, hi⟩ := List.getElem?_of_mem he
    exact (hp i e hi).2
end
end Go.Proofs.Ytifeokabecgimaa
