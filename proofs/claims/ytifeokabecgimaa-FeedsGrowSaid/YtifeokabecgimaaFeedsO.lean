/-
  A slice within a struct that comes in.
  Structs of numbers that come in, of any number of fields.
  Slices of structs that come in, whatever struct.
  Spots, and logs of orders, that come in.
-/
import Derived.Test.YtifeokabecgimaaOpen2
import Derived.Test.YtifeokabecgimaaGRow
import Derived.Test.YtifeokabecgimaaFeedSpec
set_option linter.unusedSimpArgs false
set_option linter.unusedVariables false
set_option maxRecDepth 100000
namespace Go.Sq
open Go Go.ChangeShapes Go.WideShapes Go.RowKit Go.Deep
section
variable {H : Type} {enc : TypeId × Value → H} {P : Program} {w : World} {base : Nat} {spare : Nat → Bool} {held : Bool}
theorem open_rows_in {k : Nat} {t e : TypeId} {C : Nat} {v : Value} {y : DataW H × List MemPlace} (ht : P.underlying t = some (.slice e))
    (hC : P.cellsOf e = C) (hpos : 0 < C) (h : DataW.trod enc P w base spare held k t [v] = some y) :
    ∃ (a : Option Addr) (len cap : Nat), v = .slice a len cap ∧ len ≤ cap ∧ cap ≤ maxLen ∧ (0 < len → ∃ b off, a = some ⟨b, off, none⟩ ∧ b < w.heap.size ∧ ∀ i, i < len →
      ∃ (cs : List Value) (n : Nat) (y : DataW H × List MemPlace), cs.length = C ∧ (∀ k, k < C → w.cell? ⟨b, off + i * C + k, none⟩ = cs[k]?) ∧ DataW.trod enc P w base spare held n e cs = some y) := by
  rcases open_slice ht h with ⟨hcs, _⟩ | ⟨a, l, c, m, n, D, Pl, hcs, _, hl, hm, hmm, _, hi⟩
  · cases hcs
    exact ⟨none, 0, 0, rfl, Nat.le_refl _, by simp [maxLen], fun h => absurd h (by omega)⟩
  · cases hcs
    refine ⟨some a, l, c, rfl, hl, hm, fun hlen => ?_⟩
    obtain ⟨b, off, rfl, hbl⟩ : ∃ b off, a = ⟨b, off, none⟩ ∧ b < w.heap.size := by
      obtain ⟨cs', hc, _⟩ := hi 0 (by rw [hmm]; split <;> omega)
      rw [hC] at hc
      obtain ⟨_, hcl, hat⟩ := World.cells?_some hc
      have h0 := hat 0 hpos
      rw [List.getElem?_eq_getElem (show 0 < cs'.length by omega)] at h0
      have hsp : a.spot = none := by simpa [Addr.add] using World.cell?_spot h0
      have hbl := World.block_lt_of_cell? _ _ h0
      rw [add_block, add_block] at hbl
      obtain ⟨b, off, spot⟩ := a
      obtain rfl : spot = none := hsp
      exact ⟨b, off, rfl, hbl⟩
    refine ⟨b, off, rfl, hbl, fun i hil => ?_⟩
    obtain ⟨cs', hc, ht'⟩ := hi i (by rw [hmm]; split <;> omega)
    rw [hC] at hc
    obtain ⟨_, hcl, hat⟩ := World.cells?_some hc
    refine ⟨cs', n, _, hcl, fun k hk => ?_, ht'⟩
    have h3 := hat k hk
    rw [add_none, add_none] at h3
    exact h3
end
end Go.Sq

namespace Go.Sq
open Go Go.ChangeShapes Go.WideShapes Go.RowKit Go.Deep
section
variable {H : Type} {enc : TypeId × Value → H} {P : Program} {w : World} {base : Nat} {spare : Nat → Bool} {held : Bool}

theorem ints_of {n k : Nat} {t : TypeId} {fs : Array Field} {l : List Value} {x : DataW H × List MemPlace} (hs : P.underlying t = some (.struct fs)) (hone : oneCellFields P fs = true)
    (hC : P.cellsOf t = fs.size) (h5 : fs.size = k) (hty : ∀ (j : Nat) (f : Field), fs[j]? = some f → P.underlying f.type = some (.int .i64)) (h : DataW.trod enc P w base spare held n t l = some x) :
    ∃ zs : List Int, zs.length = k ∧ l = zs.map (.int .i64) ∧ ∀ z ∈ zs, (Lit.int .i64 z).wf = true := by
  obtain ⟨hl, m, hf⟩ := cells_fields hs hone hC h
  rw [h5] at hl
  obtain ⟨zs, hz, hp⟩ := list_of (p := fun i z => l[i]? = some (.int .i64 z) ∧ (Lit.int .i64 z).wf = true) k (fun j hj => by
    have hj' : j < fs.size := by omega
    obtain ⟨c', y, h1, h2⟩ := hf j _ (Array.getElem?_eq_getElem hj')
    obtain ⟨z, hz, _, hw⟩ := DataW.trod_int (hty j _ (Array.getElem?_eq_getElem hj')) h2
    obtain rfl : c' = .int .i64 z := by simpa using hz
    exact ⟨z, h1, hw⟩)
  refine ⟨zs, hz, List.ext_getElem? (fun i => ?_), fun z hzm => ?_⟩
  · rw [List.getElem?_map]
    by_cases hi : i < k
    · have := (hp i zs[i] (List.getElem?_eq_getElem (by omega))).1
      rw [this, List.getElem?_eq_getElem (by omega)]
      rfl
    · rw [List.getElem?_eq_none (by omega), List.getElem?_eq_none (by omega)]
      rfl
  · obtain ⟨i, hi, rfl⟩ := List.mem_iff_getElem.1 hzm
    exact (hp i _ (List.getElem?_eq_getElem hi)).2
end
end Go.Sq

namespace Go.Sq
open Go Go.ChangeShapes Go.WideShapes Go.RowKit Go.Deep
section
variable {H : Type} {enc : TypeId × Value → H} {P : Program} {w : World} {base : Nat} {spare : Nat → Bool} {held : Bool} {α : Type}

theorem open_sl_in (R : Gr.Enc P α) {q : α → Prop} {k : Nat} {v : Value} {y : DataW H × List MemPlace} (hC : P.cellsOf R.elem = R.size)
    (hdec : ∀ (n : Nat) (cs : List Value) (y : DataW H × List MemPlace), DataW.trod enc P w base spare held n R.elem cs = some y → ∃ a, cs = R.enc a ∧ q a)
    (h : DataW.trod enc P w base spare held k R.slice [v] = some y) :
    ∃ (A : Option Addr) (l : List α) (c : Nat), v = .slice A l.length c ∧ l.length ≤ c ∧ c ≤ 9223372036854775807 ∧ Gr.Sl R w w.heap.size A l ∧ (∀ a ∈ l, q a) ∧ (A = none → c = 0) := by
  obtain ⟨A, len, cap, rfl, h1, h2, h3⟩ := open_rows_in R.und hC R.pos h
  have h2' : cap ≤ 9223372036854775807 := by simp only [maxLen] at h2; omega
  have hnil : A = none → cap = 0 := fun e => by
    subst e
    rcases open_slice R.und h with ⟨hcs, _⟩ | ⟨a, l, c, m, n, D, Pl, hcs, _⟩
    · injection hcs with hcs
      injection hcs
    · injection hcs with hcs
      injection hcs with h
      cases h
  rcases Nat.eq_zero_or_pos len with h0 | h0
  · subst h0
    exact ⟨A, [], cap, rfl, h1, h2', Gr.Sl.nil, by simp, hnil⟩
  · obtain ⟨b, off, rfl, hb, hrow⟩ := h3 h0
    obtain ⟨l, hl, hp⟩ := list_of (p := fun i e => Gr.At R w b (off + i * R.size) e ∧ q e) len (fun i hi => by
      obtain ⟨cs, n, y, hcl, hcell, ht⟩ := hrow i hi
      obtain ⟨a, rfl, hq⟩ := hdec n cs y ht
      exact ⟨a, fun k hk => hcell k hk, hq⟩)
    subst hl
    refine ⟨some ⟨b, off, none⟩, l, cap, rfl, h1, h2', fun _ => ⟨b, off, rfl, hb, fun i e he => (hp i e he).1⟩, fun a ha => ?_, hnil⟩
    obtain ⟨i, hi⟩ := List.getElem?_of_mem ha
    exact (hp i a hi).2
theorem open_sl (R : Gr.Enc P α) {q : α → Prop} {r : Reach} {b0 : Nat} {v : Value} {d : DataW H} {p : List MemPlace} (hC : P.cellsOf R.elem = R.size)
    (hdec : ∀ (n : Nat) (cs : List Value) (y : DataW H × List MemPlace), DataW.trod enc P w base spare held n R.elem cs = some y → ∃ a, cs = R.enc a ∧ q a)
    (hv : Value.okWide P w r b0 R.slice v) (h : DataW.Trod enc P w base spare held R.slice v d p) :
    ∃ (A : Option Addr) (l : List α) (c : Nat), v = .slice A l.length c ∧ l.length ≤ c ∧ c ≤ 9223372036854775807 ∧ Gr.Sl R w w.heap.size A l ∧ (∀ a ∈ l, q a) ∧ (A = none → c = 0) := by
  obtain ⟨a0, len, cap, rfl⟩ := okWide_slice R.und hv
  obtain ⟨fuel, hf⟩ := h
  exact open_sl_in R hC hdec (by simpa [Value.cells] using hf)
end
end Go.Sq

namespace Go.Proofs.Ytifeokabecgimaa
open Go Go.ChangeShapes Go.WideShapes Go.RowKit Go.Deep Go.Sq Go.Wd Go.Arch
section
variable {H : Type} {enc : TypeId × Value → H} {w : World} {base : Nat} {spare : Nat → Bool} {held : Bool}

theorem dec_spot (n : Nat) (cs : List Value) (y : DataW H × List MemPlace) (h : DataW.trod enc Try.prog w base spare held n 71 cs = some y) : ∃ a : Spt, cs = spotE.enc a ∧ True := by
  obtain ⟨zs, hzl, rfl, _⟩ := ints_of (k := 2) Try.underlying71 (by kernel_rfl) (by kernel_rfl) rfl (by
    intro j f hf
    have hj : j < 2 := (Array.getElem?_eq_some_iff.1 hf).1
    obtain rfl | rfl : j = 0 ∨ j = 1 := by omega
    all_goals
      cases hf
      exact Try.underlying3) h
  obtain ⟨a, b, rfl⟩ := len2 hzl
  exact ⟨(a, b), rfl, trivial⟩
theorem dec_ord (n : Nat) (cs : List Value) (y : DataW H × List MemPlace) (h : DataW.trod enc Try.prog w base spare held n 43 cs = some y) : ∃ a : Ord, cs = ordE.enc a ∧ (Lit.int .i64 a.id).wf = true := by
  obtain ⟨zs, hzl, rfl, hw⟩ := ints_of (k := 5) Try.underlying43 (by kernel_rfl) (by kernel_rfl) rfl (by
    intro j f hf
    have hj : j < 5 := (Array.getElem?_eq_some_iff.1 hf).1
    obtain rfl | rfl | rfl | rfl | rfl : j = 0 ∨ j = 1 ∨ j = 2 ∨ j = 3 ∨ j = 4 := by omega
    all_goals
      cases hf
      exact Try.underlying3) h
  obtain ⟨a, b, c, d, e, rfl⟩ := len5 hzl
  exact ⟨⟨a, b, c, d, e⟩, rfl, hw a (by simp)⟩
theorem open_spots {r : Reach} {b0 : Nat} {v : Value} {d : DataW H} {p : List MemPlace} (hv : Value.okWide Try.prog w r b0 52 v) (h : DataW.Trod enc Try.prog w base spare held 52 v d p) :
    ∃ (A : Option Addr) (l : List Spt) (c : Nat), v = .slice A l.length c ∧ l.length ≤ c ∧ c ≤ 9223372036854775807 ∧ Gr.Sl spotE w w.heap.size A l := by
  obtain ⟨A, l, c, h1, h2, h3, h4, _⟩ := open_sl spotE (q := fun _ => True) (by kernel_rfl) dec_spot hv h
  exact ⟨A, l, c, h1, h2, h3, h4⟩
theorem open_logs22 {r : Reach} {b0 : Nat} {v : Value} {d : DataW H} {p : List MemPlace} (hv : Value.okWide Try.prog w r b0 55 v) (h : DataW.Trod enc Try.prog w base spare held 55 v d p) :
    ∃ (A : Option Addr) (l : List Ord) (c : Nat), v = .agg #[.slice A l.length c] ∧ l.length ≤ c ∧ c ≤ 9223372036854775807 ∧ Gr.Sl ordE w w.heap.size A l ∧ ∀ o ∈ l, (Lit.int .i64 o.id).wf = true := by
  obtain ⟨l, m, rfl, hl, hf⟩ := open_fields Try.underlying55 (by kernel_rfl) (by kernel_rfl) hv h
  obtain ⟨c0, rfl⟩ : ∃ c0, l = [c0] := by
    match l, hl with
    | [c0], _ => exact ⟨c0, rfl⟩
  obtain ⟨_, _, e0, t0⟩ := hf 0 _ rfl
  cases e0
  obtain ⟨A, os, c, rfl, h2, h3, h4, h5, _⟩ := open_sl_in ordE (q := fun o => (Lit.int .i64 o.id).wf = true) (by kernel_rfl) dec_ord t0
  exact ⟨A, os, c, rfl, h2, h3, h4, h5⟩
end
end Go.Proofs.Ytifeokabecgimaa
