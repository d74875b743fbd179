/-
  What Decide hands on, at whatever state and order: an outcome, its events in new memory.
-/
import Derived.Test.YtifeokabecgimaaOuts
import Derived.Test.YtifeokabecgimaaDecideAny
import Derived.Test.YtifeokabecgimaaRef12Any
set_option linter.unusedSimpArgs false
set_option linter.unusedVariables false
set_option maxRecDepth 100000
namespace Go.Proofs.Ytifeokabecgimaa
open Go Go.RowKit Go.Sq Go.Wd Go.Arch

def stv (s : St) : List Value := [.int .i64 s.tag, .bool s.closed, .int .i64 s.sum, .int .i64 s.ver]
/-- An outcome, handed on. -/
def DecOut (s : St) (o : Ord) (w : World) (e : Ending) (w' : World) : Prop :=
  ∃ sl : Sl, e = .returned (.agg #[.int .i64 (decS s o).2.1, .int .i64 (decS s o).2.2.1, .slice sl.1 sl.2.1 sl.2.2]) ∧ EvAt w' w.heap.size none sl (decS s o).2.2.2 ∧ Below w.heap.size w w'

theorem decS_no {s : St} {o : Ord} (h : codeS s o ≠ 1) : decS s o = (s, (codeS s o, verS s o, [])) := by unfold decS; rw [if_neg h]
theorem decS_yes {s : St} {o : Ord} (h : codeS s o = 1) : decS s o = (applyS s (evOf o), (1, s.ver + 1, [(o.kind, (evOf o).arg)])) := by unfold decS; rw [if_pos h]

theorem decide_out (s : St) (o : Ord) (w : World) : Calls Try.prog 24 #[.agg #[.int .i64 s.tag, .bool s.closed, .int .i64 s.sum, .int .i64 s.ver], .agg #[.int .i64 o.id, .int .i64 o.stream, .int .i64 o.expect, .int .i64 o.kind, .int .i64 o.arg]] w (fun e w' => DecOut s o w e w') := by
  by_cases h : codeS s o = 1
  · refine (decide_yes s.tag s.sum s.ver o.id o.stream o.expect o.kind o.arg s.closed w h).mono ?_
    rintro e w' ⟨g, rfl, h1, h2, h3, h4, h5, h6, h7⟩
    unfold DecOut
    rw [decS_yes h]
    exact ⟨(some ⟨g, 0, none⟩, 1, 1), rfl, .inr ⟨g, _, _, rfl, rfl, h1, h2, by simp, h3, h4, h5, h6⟩, h7⟩
  · refine (decide_no s.tag s.sum s.ver o.id o.stream o.expect o.kind o.arg s.closed w h).mono ?_
    rintro e w' ⟨rfl, h7⟩
    unfold DecOut
    rw [decS_no h]
    exact ⟨(none, 0, 0), rfl, .inl ⟨rfl, rfl⟩, h7⟩
theorem ref_decide_out (s : St) (o : Ord) (w : World) : Calls Try.prog 33 #[.agg #[.int .i64 s.tag, .bool s.closed, .int .i64 s.sum, .int .i64 s.ver], .agg #[.int .i64 o.id, .int .i64 o.stream, .int .i64 o.expect, .int .i64 o.kind, .int .i64 o.arg]] w (fun e w' => DecOut s o w e w') := by
  by_cases h : codeS s o = 1
  · refine (ref_decide_yes s.tag s.sum s.ver o.id o.stream o.expect o.kind o.arg s.closed w h).mono ?_
    rintro e w' ⟨g, rfl, h1, h2, h3, h4, h5, h6, h7⟩
    unfold DecOut
    rw [decS_yes h]
    exact ⟨(some ⟨g, 0, none⟩, 1, 1), rfl, .inr ⟨g, _, _, rfl, rfl, h1, h2, by simp, h3, h4, h5, h6⟩, h7⟩
  · refine (ref_decide_no s.tag s.sum s.ver o.id o.stream o.expect o.kind o.arg s.closed w h).mono ?_
    rintro e w' ⟨rfl, h7⟩
    unfold DecOut
    rw [decS_no h]
    exact ⟨(none, 0, 0), rfl, .inl ⟨rfl, rfl⟩, h7⟩
/-- An event, at another base. -/
theorem EvAt.base {w : World} {B B' : Nat} {own : Option Nat} {sl : Sl} {evs : List (Int × Int)} (h : EvAt w B none sl evs) (hB : B' ≤ B) (ho : ∀ g, own = some g → g < B) : EvAt w B' own sl evs := by
  rcases h with h | ⟨g, k, a, h1, h2, h3, h4, h5, h6⟩
  · exact .inl h
  · exact .inr ⟨g, k, a, h1, h2, by omega, h4, fun e => by have := ho g e.symm; omega, h6⟩
/-- The one event, if there is one. -/
theorem decS_ev {s : St} {o : Ord} {k a : Int} (h : (decS s o).2.2.2 = [(k, a)]) : (decS s o).1 = applyS s ⟨k, a⟩ := by
  by_cases hc : codeS s o = 1
  · rw [decS_yes hc] at h ⊢
    simp only [List.cons.injEq, Prod.mk.injEq, and_true] at h
    obtain ⟨rfl, rfl⟩ := h
    rfl
  · rw [decS_no hc] at h; cases h
theorem decS_nil {s : St} {o : Ord} (h : (decS s o).2.2.2 = []) : (decS s o).1 = s := by
  by_cases hc : codeS s o = 1
  · rw [decS_yes hc] at h; cases h
  · rw [decS_no hc]
end Go.Proofs.Ytifeokabecgimaa
