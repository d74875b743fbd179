/-
  Entries appended to a slice that is full: what it held is copied, or nothing comes.
-/
import Derived.Test.YtlineikeafepcaaLogAt
import Derived.Test.YtlineikeafepcaaRow
import Derived.ArgAppend
import Derived.Deep.Upon
set_option linter.unusedSimpArgs false
set_option linter.unusedVariables false
set_option maxRecDepth 100000
namespace Go.Proofs.Ytlineikeafepcaa
open Go Go.RowKit Go.Sq Go.Wd Go.Arch

theorem Row.where_ {w : World} {B : Nat} {A : Option Addr} {n c : Nat} {l : List Ent} (h : Row w B (.slice A n c) l) : A = none ∨ ∃ g, A = some ⟨g, 0, none⟩ ∧ B ≤ g := by
  rcases h.2 with ⟨h', _⟩ | ⟨g, cap, cur, h1, h2, _⟩
  · cases h'; exact .inl rfl
  · cases h1; exact .inr ⟨g, rfl, h2⟩

theorem app_full (l m : List Ent) (A B : Option Addr) (d : Nat) (w : World) (ha : Ents w w.heap.size A l) (hb : Ents w w.heap.size B m) (hl : l.length + m.length ≤ 2000) :
    ∃ (sl : SlcE) (w' : World), (Builtin.append_ #[49, 49] 49 #[.slice A l.length l.length, .slice B m.length d]).run Try.prog w = .ok (.slice sl.1 sl.2.1 sl.2.2) w' ∧ LogAt w' w'.heap.size sl (l ++ m) ∧ Below w.heap.size w w' ∧ (sl.1 = A ∨ ∃ g, sl.1 = some ⟨g, 0, none⟩ ∧ w.heap.size ≤ g) := by
  obtain ⟨i, hi, hz, h2, h3⟩ := info_parts ent_info
  rcases Nat.eq_zero_or_pos m.length with h0 | h0
  · obtain rfl : m = [] := List.eq_nil_of_length_eq_zero h0
    refine ⟨(A, l.length, l.length), w, ?_, ?_, Below.refl _ _, .inl rfl⟩
    · refine run_append_nothing (P := Try.prog) w _ _ _ _ i Try.underlying49 hi A l.length l.length (Nat.le_refl _) _ ?_
      cases B with
      | none => exact Src.ofNil w Try.underlying49 d
      | some a => exact Src.ofSlice w Try.underlying49 a 0 d [] (by simp) (by simp) (by simp)
    · rw [List.append_nil]
      exact ⟨rfl, Nat.le_refl _, (by show l.length ≤ 9223372036854775807; omega), ha⟩
  · obtain ⟨b, hB, hb2⟩ := hb.cells h0
    subst hB
    rcases Nat.eq_zero_or_pos l.length with l0 | l0
    · obtain rfl : l = [] := List.eq_nil_of_length_eq_zero l0
      cases A with
      | none =>
        obtain ⟨v1, w1, h1, h2, h3, _⟩ := append_all (P := Try.prog) 49 Try.underlying49 ent_info rfl (by omega) (World.ownsRow_nil w w.heap.size 84 6) (some b) m.length d (flat m) (flat_len m) hb.cells (flat_one_cell m) (by simp only [maxLen]; omega) (by omega) (Nat.le_refl _)
        have hR : Row w1 w.heap.size v1 m := by
          unfold Row
          simpa using h2
        obtain ⟨A', c', rfl, q1, q2, q3⟩ := hR.form
        exact ⟨(A', m.length, c'), w1, h1, ⟨rfl, q1, q2, q3⟩, below_own (Below.refl _ _) h3 (World.ownsRow_nil w w.heap.size 84 6) (Nat.le_refl _), hR.where_⟩
      | some a =>
        obtain ⟨v1, w1, h1, h2', h3'⟩ := run_append_arg_grows (P := Try.prog) w 49 49 84 i _ 6 48 Try.underlying49 hi hz h2 h3 rfl (by omega) a 0 0 [] rfl (by simp) b m.length d (flat m) (flat_len m) hb2 (by omega) (by simp only [maxLen]; omega) (by omega)
        have hR : Row w1 w.heap.size v1 m := by
          unfold Row
          simpa using h2'
        obtain ⟨A', c', rfl, q1, q2, q3⟩ := hR.form
        exact ⟨(A', m.length, c'), w1, h1, ⟨rfl, q1, q2, q3⟩, ⟨h3'.os, h3'.tape, h3'.output, h3'.size, fun k hk => h3'.block k hk (by simp)⟩, hR.where_.elim (fun e => absurd h0 (by subst e; have := q3; intro hh; obtain ⟨_, _, e, _⟩ := this hh; cases e)) .inr⟩
    · obtain ⟨a, hA, ha2⟩ := ha.cells l0
      subst hA
      obtain ⟨v1, w1, h1, h2', h3'⟩ := run_append_arg_grows (P := Try.prog) w 49 49 84 i _ 6 48 Try.underlying49 hi hz h2 h3 rfl (by omega) a l.length l.length (flat l) (flat_len l) ha2 b m.length d (flat m) (flat_len m) hb2 (by omega) (by simp only [maxLen]; omega) (by omega)
      have hR : Row w1 w.heap.size v1 (l ++ m) := by
        unfold Row
        rw [List.length_append, flat_snoc]
        exact h2'
      obtain ⟨A', c', rfl, q1, q2, q3⟩ := hR.form
      exact ⟨(A', (l ++ m).length, c'), w1, by rw [h1], ⟨rfl, q1, q2, q3⟩, ⟨h3'.os, h3'.tape, h3'.output, h3'.size, fun k hk => h3'.block k hk (by simp)⟩, hR.where_.elim (fun e => absurd h0 (by subst e; have := q3; intro hh; obtain ⟨_, _, e, _⟩ := this (by simp; omega); cases e)) .inr⟩
end Go.Proofs.Ytlineikeafepcaa
