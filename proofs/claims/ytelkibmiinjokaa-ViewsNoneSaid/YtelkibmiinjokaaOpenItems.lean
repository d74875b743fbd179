/-
  A slice of items that comes in.
-/
import Derived.Test.YtelkibmiinjokaaOpen2
import Derived.Test.YtelkibmiinjokaaItems
set_option linter.unusedSimpArgs false
set_option linter.unusedVariables false
set_option maxRecDepth 100000
namespace Go.Sq
open Go Go.ChangeShapes Go.WideShapes Go.RowKit Go.Deep
section
variable {H : Type} {enc : TypeId × Value → H} {P : Program} {w : World} {base : Nat} {spare : Nat → Bool} {held : Bool}
theorem open_rows_in {k : Nat} {t e : TypeId} {C : Nat} {v : Value} {y : DataW H × List MemPlace} (ht : P.underlying t = some (.slice e))
    (hC : P.cellsOf e = C) (hpos : 0 < C) (h : DataW.trod enc P w base spare held k t [v] = some y) :
    ∃ (a : Option Addr) (len cap : Nat), v = .slice a len cap ∧ len ≤ cap ∧ cap ≤ maxLen ∧ (0 < len → ∃ b off, a = some ⟨b, off, none⟩ ∧ b < w.heap.size ∧ ∀ i, i < len →
      ∃ (cs : List Value) (n : Nat) (y : DataW H × List MemPlace), cs.length = C ∧ (∀ k, k < C → w.cell? ⟨b, off + i * C + k, none⟩ = cs[k]?) ∧ DataW.trod enc P w base spare held n e cs = some y) := by
  rcases open_slice ht h with ⟨hcs, _⟩ | ⟨a, l, c, m, n, D, Pl, hcs, _, hl, hm, hmm, _, hi⟩
  · cases hcs
    exact ⟨none, 0, 0, rfl, Nat.le_refl _, by simp [maxLen], fun h => absurd h (by omega)⟩
  · cases hcs
    refine ⟨some a, l, c, rfl, hl, hm, fun hlen => ?_⟩
    obtain ⟨b, off, rfl, hbl⟩ : ∃ b off, a = ⟨b, off, none⟩ ∧ b < w.heap.size := by
      obtain ⟨cs', hc, _⟩ := hi 0 (by rw [hmm]; split <;> omega)
      rw [hC] at hc
      obtain ⟨_, hcl, hat⟩ := World.cells?_some hc
      have h0 := hat 0 hpos
      rw [List.getElem?_eq_getElem (show 0 < cs'.length by omega)] at h0
      have hsp : a.spot = none := by simpa [Addr.add] using World.cell?_spot h0
      have hbl := World.block_lt_of_cell? _ _ h0
      rw [add_block, add_block] at hbl
      obtain ⟨b, off, spot⟩ := a
      obtain rfl : spot = none := hsp
      exact ⟨b, off, rfl, hbl⟩
    refine ⟨b, off, rfl, hbl, fun i hil => ?_⟩
    obtain ⟨cs', hc, ht'⟩ := hi i (by rw [hmm]; split <;> omega)
    rw [hC] at hc
    obtain ⟨_, hcl, hat⟩ := World.cells?_some hc
    refine ⟨cs', n, _, hcl, fun k hk => ?_, ht'⟩
    have h3 := hat k hk
    rw [add_none, add_none] at h3
    exact h3
end
end Go.Sq
namespace Go.Proofs.Ytelkibmiinjokaa
open Go Go.ChangeShapes Go.WideShapes Go.RowKit Go.Deep Go.Sq Go.Wd Go.Arch
section
variable {H : Type} {enc : TypeId × Value → H} {w : World} {base : Nat} {spare : Nat → Bool} {held : Bool}

theorem len10 {α : Type} {l : List α} (h : l.length = 10) : ∃ a0 a1 a2 a3 a4 a5 a6 a7 a8 a9, l = [a0, a1, a2, a3, a4, a5, a6, a7, a8, a9] := by
  match l, h with
  | [a0, a1, a2, a3, a4, a5, a6, a7, a8, a9], _ => exact ⟨a0, a1, a2, a3, a4, a5, a6, a7, a8, a9, rfl⟩

theorem open_evs {k : Nat} {v : Value} {y : DataW H × List MemPlace} (h : DataW.trod enc Try.prog w base spare held k 63 [v] = some y) :
    ∃ (sl : Slc) (evs : List (Int × Int)), v = .slice sl.1 sl.2.1 sl.2.2 ∧ EvsAt w w.heap.size sl evs := by
  obtain ⟨A, len, cap, rfl, h1, h2, h3⟩ := open_rows_in Try.underlying63 (C := 2) (by kernel_rfl) (by omega) h
  have h2' : cap ≤ 9223372036854775807 := by simp only [maxLen] at h2; omega
  rcases Nat.eq_zero_or_pos len with h0 | h0
  · subst h0
    exact ⟨(A, 0, cap), [], rfl, rfl, h1, h2', fun h => absurd h (by simp)⟩
  · obtain ⟨b, off, rfl, hb, hrow⟩ := h3 h0
    obtain ⟨l, hl, hp⟩ := list_of (p := fun i (e : Int × Int) => w.cell? ⟨b, off + i * 2, none⟩ = some (.int .i64 e.1) ∧ w.cell? ⟨b, off + i * 2 + 1, none⟩ = some (.int .i64 e.2)) len (fun i hi => by
      obtain ⟨cs, n, y, hcl, hcell, ht⟩ := hrow i hi
      obtain ⟨hl, m, hf⟩ := cells_fields Try.underlying82 (by kernel_rfl) (by kernel_rfl) ht
      obtain ⟨c0, c1, rfl⟩ := len2 hl
      obtain ⟨d0, y0, e0, t0⟩ := hf 0 _ rfl
      obtain ⟨d1, y1, e1, t1⟩ := hf 1 _ rfl
      cases e0; cases e1
      obtain ⟨z0, q0, _, _⟩ := DataW.trod_int Try.underlying3 t0
      obtain ⟨z1, q1, _, _⟩ := DataW.trod_int Try.underlying3 t1
      cases q0; cases q1
      exact ⟨(z0, z1), hcell 0 (by omega), hcell 1 (by omega)⟩)
    subst hl
    exact ⟨(some ⟨b, off, none⟩, l.length, cap), l, rfl, rfl, h1, h2', fun _ => ⟨b, off, rfl, hb, fun i e he => hp i e he⟩⟩

theorem open_item {n : Nat} {cs : List Value} {y : DataW H × List MemPlace} (h : DataW.trod enc Try.prog w base spare held n 69 cs = some y) : ∃ x : Itm, cs = itv x ∧ EvsAt w w.heap.size x.sl x.evs := by
  have hC : Try.prog.cellsOf 69 = 10 := by kernel_rfl
  have hCs : Try.prog.cellsOf 67 = 2 := by kernel_rfl
  have hCo : Try.prog.cellsOf 39 = 5 := by kernel_rfl
  have hCu : Try.prog.cellsOf 65 = 3 := by kernel_rfl
  obtain ⟨xs, m, _, _, hl, hlen, hg⟩ := DataW.trod_struct Try.underlying69 h
  rw [hC] at hl
  obtain ⟨c0, c1, c2, c3, c4, c5, c6, c7, c8, c9, rfl⟩ := len10 hl
  have h0 := hg 0 _ rfl
  have h1 := hg 1 _ rfl
  have h2 := hg 2 _ rfl
  simp only [List.getElem_toArray, List.getElem_cons_zero, List.getElem_cons_succ] at h0 h1 h2
  rw [hCs] at h0
  rw [hCo] at h1
  rw [hCu] at h2
  simp only [List.drop_zero, List.take_succ_cons, List.take_zero, List.drop_succ_cons] at h0 h1 h2
  have hx : xs.length = 3 := hlen
  obtain ⟨x0, x1, x2, rfl⟩ := len3 hx
  obtain ⟨hls, ms, hfs⟩ := cells_fields Try.underlying67 (by kernel_rfl) (by kernel_rfl) h0
  obtain ⟨_, _, es0, ts0⟩ := hfs 0 _ rfl
  obtain ⟨_, _, es1, ts1⟩ := hfs 1 _ rfl
  cases es0; cases es1
  obtain ⟨z0, q0, _, _⟩ := DataW.trod_int Try.underlying3 ts0
  obtain ⟨z1, q1, _, _⟩ := DataW.trod_int Try.underlying3 ts1
  cases q0; cases q1
  obtain ⟨a, b, c, d, e, h5, _⟩ := five_of (ti := 3) Try.underlying39 (by kernel_rfl) (by kernel_rfl) rfl (by
    intro j f hf
    have hj : j < 5 := (Array.getElem?_eq_some_iff.1 hf).1
    obtain rfl | rfl | rfl | rfl | rfl : j = 0 ∨ j = 1 ∨ j = 2 ∨ j = 3 ∨ j = 4 := by omega
    all_goals
      cases hf
      exact Try.underlying3) h1
  cases h5
  obtain ⟨hlu, mu, hfu⟩ := cells_fields Try.underlying65 (by kernel_rfl) (by kernel_rfl) h2
  obtain ⟨_, _, eu0, tu0⟩ := hfu 0 _ rfl
  obtain ⟨_, _, eu1, tu1⟩ := hfu 1 _ rfl
  obtain ⟨_, _, eu2, tu2⟩ := hfu 2 _ rfl
  cases eu0; cases eu1; cases eu2
  obtain ⟨u0, r0, _, _⟩ := DataW.trod_int Try.underlying3 tu0
  obtain ⟨u1, r1, _, _⟩ := DataW.trod_int Try.underlying3 tu1
  cases r0; cases r1
  obtain ⟨sl, evs, rfl, hE⟩ := open_evs tu2
  exact ⟨⟨z0, z1, a, b, c, d, e, u0, u1, sl, evs⟩, rfl, hE⟩

theorem open_items {r : Reach} {b0 : Nat} {v : Value} {d : DataW H} {p : List MemPlace} (hv : Value.okWide Try.prog w r b0 45 v) (h : DataW.Trod enc Try.prog w base spare held 45 v d p) :
    ∃ (A : Option Addr) (l : List Itm) (c : Nat), v = .slice A l.length c ∧ l.length ≤ c ∧ c ≤ 9223372036854775807 ∧ Items w w.heap.size A l := by
  obtain ⟨A, len, cap, rfl, h1, h2, h3⟩ := open_rows_any Try.underlying45 (C := 10) (by kernel_rfl) (by omega) hv h
  have h2' : cap ≤ 9223372036854775807 := by simp only [maxLen] at h2; omega
  rcases Nat.eq_zero_or_pos len with h0 | h0
  · subst h0
    exact ⟨A, [], cap, rfl, h1, h2', by simp, fun h => absurd h (by simp)⟩
  · obtain ⟨b, off, rfl, hb, hrow⟩ := h3 h0
    obtain ⟨l, hl, hp⟩ := list_of (p := fun i e => ItAt w b (off + i * 10) e ∧ EvsAt w w.heap.size e.sl e.evs) len (fun i hi => by
      obtain ⟨cs, n, y, hcl, hcell, ht⟩ := hrow i hi
      obtain ⟨x, rfl, hE⟩ := open_item ht
      exact ⟨x, ⟨hcell 0 (by omega), hcell 1 (by omega), hcell 2 (by omega), hcell 3 (by omega), hcell 4 (by omega), hcell 5 (by omega), hcell 6 (by omega), hcell 7 (by omega), hcell 8 (by omega), hcell 9 (by omega)⟩, hE⟩)
    subst hl
    refine ⟨_, l, cap, rfl, h1, h2', fun x hx => ?_, fun _ => ⟨b, off, rfl, hb, fun i e he => (hp i e he).1⟩⟩
    obtain ⟨i, hi⟩ := List.getElem?_of_mem hx
    exact (hp i x hi).2
end
end Go.Proofs.Ytelkibmiinjokaa
