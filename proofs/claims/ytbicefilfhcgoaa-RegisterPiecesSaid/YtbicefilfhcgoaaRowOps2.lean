/-
  A store into a block that is known whole, and what it leaves: only that block has turned.
-/
import Derived.Test.YtbicefilfhcgoaaMidOps
import Derived.Test.YtbicefilfhcgoaaRegClone
set_option linter.unusedSimpArgs false
set_option linter.unusedVariables false
set_option maxRecDepth 100000
namespace Go.Wd
open Go Go.RowKit

theorem grown_setRow (w : World) (g : Nat) (l : Array Value) : w.grownBy (w.setRow g l) (some g) := ⟨rfl, rfl, rfl, by simp, fun k _ hk => setRow_other w g k l (fun e => hk (by rw [e]))⟩
theorem below_grown {B g : Nat} {w w' : World} (hg : w.grownBy w' (some g)) (hB : B ≤ g) (hw : B ≤ w.heap.size) : Below B w w' := ⟨hg.os, hg.tape, hg.output, hg.size, fun k hk => hg.block k (by omega) (by intro e; cases e; omega)⟩
theorem wpList_store_own {P : Program} {w : World} {ops : Array Oper} {rest : List Oper} {o : Oper} {a : Act} {Q : Exit → Act → World → Prop} (hgd : o.guard = none) (ty : TypeId) (x y : Operand) (ho : o.op = .store ty x y)
    (g : Nat) (cs : List Value) (hx : a.eval x = .pointer (some ⟨g, 0, none⟩)) (hy : a.eval y = .agg cs.toArray) (t : TypeId) (old : List Value) (hg : Blk w g t old)
    (hi : (P.info? ty).map (·.size) = some cs.length) (hold : old.length = cs.length) (h1 : ∀ v ∈ cs, v.oneCell' = true)
    (h : ∀ w', Blk w' g t cs → w.grownBy w' (some g) → wpList P ops Q rest (a.put o.dst undef) w') : wpList P ops Q (o :: rest) a w :=
  wpList_store_row hgd ty x y ho g cs.toArray hx hy t old.toArray hg (by simpa using hi) (by simpa using hold)
    (Array.all_eq_true_iff_forall_mem.2 (fun v hv => h1 v (by simpa using hv)))
    (h _ (hg.row cs) (grown_setRow w g _))
end Go.Wd
namespace Go.Proofs.Ytbicefilfhcgoaa
open Go Go.RowKit Go.Sq Go.Wd Go.Arch
theorem Row.logAt {w : World} {B : Nat} {sl : SlcE} {l : List Ent} (h : Row w B (.slice sl.1 sl.2.1 sl.2.2) l) : LogAt w w.heap.size sl l := by
  obtain ⟨s2, he, hl⟩ := h.log
  obtain ⟨a, b, c⟩ := sl
  obtain ⟨a2, b2, c2⟩ := s2
  cases he
  exact hl
/-- A log that lies below, or a row above, stays where only block g turns. -/
theorem LogAt.grown {w w' : World} {B g : Nat} {sl : SlcE} {l : List Ent} (h : LogAt w B sl l) (hB : B ≤ w.heap.size) (hg : w.grownBy w' (some g)) (hb : B ≤ g) : LogAt w' w'.heap.size sl l :=
  (h.below (below_grown hg hb hB)).more (Nat.le_trans hB hg.size)
end Go.Proofs.Ytbicefilfhcgoaa
