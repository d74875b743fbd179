/-
  Registers and records that come in.
-/
import Derived.Test.YtbicefilfhcgoaaOpenRows
import Derived.Test.YtbicefilfhcgoaaRecs
set_option linter.unusedSimpArgs false
set_option linter.unusedVariables false
set_option maxRecDepth 100000
namespace Go.Proofs.Ytbicefilfhcgoaa
open Go Go.ChangeShapes Go.WideShapes Go.RowKit Go.Deep Go.Sq Go.Wd Go.Arch
section
variable {H : Type} {enc : TypeId × Value → H} {w : World} {base : Nat} {spare : Nat → Bool} {held : Bool}

theorem open_log {k : Nat} {v : Value} {y : DataW H × List MemPlace} (h : DataW.trod enc Try.prog w base spare held k 22 [v] = some y) :
    ∃ (sl : SlcE) (es : List Ent), v = .slice sl.1 sl.2.1 sl.2.2 ∧ LogAt w w.heap.size sl es ∧ ∀ e ∈ es, wfEnt e := by
  obtain ⟨A, len, cap, rfl, h1, h2, h3⟩ := open_rows_in Try.underlying22 (C := 6) (by kernel_rfl) (by omega) h
  have h2' : cap ≤ 9223372036854775807 := by simp only [maxLen] at h2; omega
  rcases Nat.eq_zero_or_pos len with h0 | h0
  · subst h0
    exact ⟨(A, 0, cap), [], rfl, ⟨rfl, h1, h2', Ents.nil⟩, by simp⟩
  · obtain ⟨b, off, rfl, hb, hrow⟩ := h3 h0
    obtain ⟨l, hl, hp⟩ := list_of (p := fun i e => EntAt w b (off + i * 6) e ∧ wfEnt e) len (fun i hi => by
      obtain ⟨cs, n, y, hcl, hcell, ht⟩ := hrow i hi
      obtain ⟨e, rfl, hw⟩ := open_ent ht
      exact ⟨e, ⟨hcell 0 (by omega), hcell 1 (by omega), hcell 2 (by omega), hcell 3 (by omega), hcell 4 (by omega), hcell 5 (by omega)⟩, hw⟩)
    subst hl
    refine ⟨(some ⟨b, off, none⟩, l.length, cap), l, rfl, ⟨rfl, h1, h2', fun _ => ⟨b, off, rfl, hb, fun i e he => (hp i e he).1⟩⟩, fun e he => ?_⟩
    obtain ⟨i, hi⟩ := List.getElem?_of_mem he
    exact (hp i e hi).2
theorem open_any_slice {k : Nat} {t e : TypeId} {v : Value} {y : DataW H × List MemPlace} (ht : Try.prog.underlying t = some (.slice e)) (h : DataW.trod enc Try.prog w base spare held k t [v] = some y) : ∃ sl : SlcE, v = .slice sl.1 sl.2.1 sl.2.2 := by
  rcases open_slice ht h with ⟨hcs, _⟩ | ⟨a, l, c, m, n, D, Pl, hcs, _⟩
  · cases hcs
    exact ⟨(none, 0, 0), rfl⟩
  · cases hcs
    exact ⟨(some a, l, c), rfl⟩
theorem rec_fields {fs : Array Field} (hs : Try.prog.underlying 27 = some (.struct fs)) {n : Nat} {cs : List Value} (hl : cs.length = fs.size)
    (hf : ∀ (j : Nat) (f : Field), fs[j]? = some f → ∃ (c : Value) (y : DataW H × List MemPlace), cs[j]? = some c ∧ DataW.trod enc Try.prog w base spare held n f.type [c] = some y) :
    ∃ x : RecV, cs = rcv x ∧ LogAt w w.heap.size x.es x.ents ∧ ∀ e ∈ x.ents, wfEnt e := by
  rw [Try.underlying27] at hs
  cases hs
  obtain ⟨c0, c1, c2, c3, c4, c5, c6, c7, rfl⟩ := len8 hl
  obtain ⟨_, _, e0, t0⟩ := hf 0 _ rfl
  obtain ⟨_, _, e1, t1⟩ := hf 1 _ rfl
  obtain ⟨_, _, e2, t2⟩ := hf 2 _ rfl
  obtain ⟨_, _, e3, t3⟩ := hf 3 _ rfl
  obtain ⟨_, _, e4, t4⟩ := hf 4 _ rfl
  obtain ⟨_, _, e5, t5⟩ := hf 5 _ rfl
  obtain ⟨_, _, e6, t6⟩ := hf 6 _ rfl
  obtain ⟨_, _, e7, t7⟩ := hf 7 _ rfl
  cases e0; cases e1; cases e2; cases e3; cases e4; cases e5; cases e6; cases e7
  obtain ⟨z0, q0, _, _⟩ := DataW.trod_int Try.underlying3 t0
  obtain ⟨z1, q1, _, _⟩ := DataW.trod_int Try.underlying3 t1
  obtain ⟨z2, q2, _, _⟩ := DataW.trod_int Try.underlying3 t2
  obtain ⟨z3, q3, _, _⟩ := DataW.trod_int Try.underlying3 t3
  obtain ⟨z4, q4, _, _⟩ := DataW.trod_int Try.underlying3 t4
  obtain ⟨z5, q5, _, _⟩ := DataW.trod_int Try.underlying3 t5
  cases q0; cases q1; cases q2; cases q3; cases q4; cases q5
  obtain ⟨sl, es, rfl, hE, hw⟩ := open_log t6
  obtain ⟨fs, rfl⟩ := open_any_slice Try.underlying25 t7
  exact ⟨⟨z0, z1, z2, z3, z4, z5, sl, es, fs⟩, rfl, hE, hw⟩
theorem reg_fields {fs : Array Field} (hs : Try.prog.underlying 24 = some (.struct fs)) {n : Nat} {cs : List Value} (hl : cs.length = fs.size)
    (hf : ∀ (j : Nat) (f : Field), fs[j]? = some f → ∃ (c : Value) (y : DataW H × List MemPlace), cs[j]? = some c ∧ DataW.trod enc Try.prog w base spare held n f.type [c] = some y) :
    ∃ (r : RegS) (sl : SlcE), cs = rgv r sl ∧ LogAt w w.heap.size sl r.log ∧ ∀ e ∈ r.log, wfEnt e := by
  rw [Try.underlying24] at hs
  cases hs
  obtain ⟨c0, c1, c2, c3, rfl⟩ := len4 hl
  obtain ⟨_, _, e0, t0⟩ := hf 0 _ rfl
  obtain ⟨_, _, e1, t1⟩ := hf 1 _ rfl
  obtain ⟨_, _, e2, t2⟩ := hf 2 _ rfl
  obtain ⟨_, _, e3, t3⟩ := hf 3 _ rfl
  cases e0; cases e1; cases e2; cases e3
  obtain ⟨z0, q0, _, _⟩ := DataW.trod_int Try.underlying3 t0
  obtain ⟨z1, q1, _, _⟩ := DataW.trod_int Try.underlying3 t1
  obtain ⟨z3, q3, _, _⟩ := DataW.trod_int Try.underlying3 t3
  cases q0; cases q1; cases q3
  obtain ⟨sl, es, rfl, hE, hw⟩ := open_log t2
  exact ⟨⟨z0, z1, es, z3⟩, sl, rfl, hE, hw⟩
theorem open_rec_cells {n : Nat} {cs : List Value} {y : DataW H × List MemPlace} (h : DataW.trod enc Try.prog w base spare held n 27 cs = some y) : ∃ x : RecV, cs = rcv x ∧ LogAt w w.heap.size x.es x.ents ∧ ∀ e ∈ x.ents, wfEnt e := by
  obtain ⟨hl, m, hf⟩ := cells_fields Try.underlying27 (by kernel_rfl) (by kernel_rfl) h
  exact rec_fields Try.underlying27 hl hf
theorem open_rec {r : Reach} {b0 : Nat} {v : Value} {d : DataW H} {p : List MemPlace} (hv : Value.okWide Try.prog w r b0 27 v) (h : DataW.Trod enc Try.prog w base spare held 27 v d p) :
    ∃ x : RecV, v = .agg (rcv x).toArray ∧ LogAt w w.heap.size x.es x.ents ∧ ∀ e ∈ x.ents, wfEnt e := by
  obtain ⟨l, m, rfl, hl, hf⟩ := open_fields Try.underlying27 (by kernel_rfl) (by kernel_rfl) hv h
  obtain ⟨x, rfl, hx⟩ := rec_fields Try.underlying27 hl hf
  exact ⟨x, rfl, hx⟩
theorem open_register {r : Reach} {b0 : Nat} {v : Value} {d : DataW H} {p : List MemPlace} (hv : Value.okWide Try.prog w r b0 24 v) (h : DataW.Trod enc Try.prog w base spare held 24 v d p) :
    ∃ (r : RegS) (sl : SlcE), v = .agg (rgv r sl).toArray ∧ LogAt w w.heap.size sl r.log ∧ ∀ e ∈ r.log, wfEnt e := by
  obtain ⟨l, m, rfl, hl, hf⟩ := open_fields Try.underlying24 (by kernel_rfl) (by kernel_rfl) hv h
  obtain ⟨x, sl, rfl, hx⟩ := reg_fields Try.underlying24 hl hf
  exact ⟨x, sl, rfl, hx⟩
theorem open_recs {r : Reach} {b0 : Nat} {v : Value} {d : DataW H} {p : List MemPlace} (hv : Value.okWide Try.prog w r b0 35 v) (h : DataW.Trod enc Try.prog w base spare held 35 v d p) :
    ∃ (A : Option Addr) (l : List RecV) (c : Nat), v = .slice A l.length c ∧ l.length ≤ c ∧ c ≤ 9223372036854775807 ∧ Recs w w.heap.size A l := by
  obtain ⟨A, len, cap, rfl, h1, h2, h3⟩ := open_rows_any Try.underlying35 (C := 8) (by kernel_rfl) (by omega) hv h
  have h2' : cap ≤ 9223372036854775807 := by simp only [maxLen] at h2; omega
  rcases Nat.eq_zero_or_pos len with h0 | h0
  · subst h0
    exact ⟨A, [], cap, rfl, h1, h2', by simp, fun h => absurd h (by simp)⟩
  · obtain ⟨b, off, rfl, hb, hrow⟩ := h3 h0
    obtain ⟨l, hl, hp⟩ := list_of (p := fun i e => RecAt w b (off + i * 8) e ∧ LogAt w w.heap.size e.es e.ents) len (fun i hi => by
      obtain ⟨cs, n, y, hcl, hcell, ht⟩ := hrow i hi
      obtain ⟨x, rfl, hE, _⟩ := open_rec_cells ht
      exact ⟨x, ⟨hcell 0 (by omega), hcell 1 (by omega), hcell 2 (by omega), hcell 3 (by omega), hcell 4 (by omega), hcell 5 (by omega), hcell 6 (by omega), hcell 7 (by omega)⟩, hE⟩)
    subst hl
    refine ⟨_, l, cap, rfl, h1, h2', fun x hx => ?_, fun _ => ⟨b, off, rfl, hb, fun i e he => (hp i e he).1⟩⟩
    obtain ⟨i, hi⟩ := List.getElem?_of_mem hx
    exact (hp i x hi).2
end
end Go.Proofs.Ytbicefilfhcgoaa
