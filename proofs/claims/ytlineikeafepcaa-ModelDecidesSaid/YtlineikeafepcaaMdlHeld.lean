/-
  A model, and blocks beside it.
-/
import Derived.Test.YtlineikeafepcaaMdlTold
import Derived.Test.YtlineikeafepcaaMdlLaw3
set_option linter.unusedSimpArgs false
set_option linter.unusedVariables false
set_option maxRecDepth 100000
namespace Go.Wd
open Go Go.RowKit

theorem grown_setCells (g : Nat) : ∀ (vs : List Value) (o : Nat) (w : World), w.grownBy (w.setCells g o vs) (some g)
  | [], _, w => World.grownBy.refl w _
  | v :: r, o, w => (grown_set w g o v).trans (grown_setCells g r (o + 1) (w.setCell ⟨g, o, none⟩ v))
theorem wpList_store_part_own {P : Program} {w : World} {ops : Array Oper} {rest : List Oper} {o : Oper} {a : Act} {Q : Exit → Act → World → Prop} (hgd : o.guard = none) (ty : TypeId) (x y : Operand) (ho : o.op = .store ty x y)
    (g i : Nat) (cs : List Value) (hx : a.eval x = .pointer (some ⟨g, i, none⟩)) (hy : a.eval y = .agg cs.toArray) (t : TypeId) (all : List Value) (hg : Blk w g t all) (hl : i + cs.length ≤ all.length)
    (hi : (P.info? ty).map (·.size) = some cs.length) (h1 : ∀ v ∈ cs, v.oneCell' = true)
    (h : ∀ w', Blk w' g t (setAll all i cs) → w.grownBy w' (some g) → wpList P ops Q rest (a.put o.dst undef) w') : wpList P ops Q (o :: rest) a w := by
  refine wpList_store_mid hgd ty x y ho g i cs.toArray hx hy (fun j hj => ⟨?_, hg.frozen _⟩) (by simpa using hi) (all_oneCell_toArray h1) (h _ (hg.setCells cs i all) (grown_setCells g cs i w))
  rw [hg.cell]
  have : i + j < all.length := by simp at hj; omega
  rw [List.getElem?_eq_getElem this]
  rfl
theorem wp_store_own {P : Program} {w : World} {o : Oper} {a : Act} {K : Act → World → Prop} {Q : Exit → Act → World → Prop} (ty : TypeId) (x y : Operand) (ho : o.op = .store ty x y)
    (g : Nat) (cs : List Value) (hx : a.eval x = .pointer (some ⟨g, 0, none⟩)) (hy : a.eval y = .agg cs.toArray) (t : TypeId) (old : List Value) (hg : Blk w g t old)
    (hi : (P.info? ty).map (·.size) = some cs.length) (hold : old.length = cs.length) (h1 : ∀ v ∈ cs, v.oneCell' = true)
    (h : ∀ w', Blk w' g t cs → w.grownBy w' (some g) → K (a.put o.dst undef) w') : o.wp P a w K Q :=
  wp_store_row ty x y ho g cs.toArray hx hy t old.toArray hg (by simpa using hi) (by simpa using hold)
    (Array.all_eq_true_iff_forall_mem.2 (fun v hv => h1 v (by simpa using hv)))
    (h _ (hg.row cs) (grown_setRow w g _))
end Go.Wd
namespace Go.Proofs.Ytlineikeafepcaa
open Go Go.RowKit Go.Sq Go.Wd Go.Arch

/-- The state behind so many of an outcome's events. -/
def stAt (s0 s1 : St) (j : Nat) : St := if j = 0 then s0 else s1
theorem stAt_end {s0 s1 : St} {p : OutS} (h : StepO s0 s1 p) : stAt s0 s1 p.2.2.length = s1 := by
  rcases h with ⟨h1, h2⟩ | ⟨k, a, h1, _⟩
  · rw [h1, h2]; rfl
  · rw [h1]; rfl
theorem EvAt.low {w : World} {B : Nat} {own : Option Nat} {sl : Sl} {evs : List (Int × Int)} (h : EvAt w B own sl evs) : EvAt w 0 own sl evs := by
  rcases h with h | ⟨g, k, a, h1, h2, h3, h4⟩
  · exact .inl h
  · exact .inr ⟨g, k, a, h1, h2, Nat.zero_le _, h4⟩
theorem EvAt.len {w : World} {B : Nat} {own : Option Nat} {sl : Sl} {evs : List (Int × Int)} (h : EvAt w B own sl evs) : sl.2.1 = evs.length := by
  rcases h with ⟨rfl, rfl⟩ | ⟨g, k, a, rfl, rfl, _⟩
  · rfl
  · rfl
theorem was_set (M : Logs) {s : Nat} (h : s < 4) : setAll (wasC M s) (s * 4) (stv (foldS (M s)).1) = wasC M (s + 1) := by
  obtain rfl | rfl | rfl | rfl : s = 0 ∨ s = 1 ∨ s = 2 ∨ s = 3 := by omega
  all_goals rfl
/-- A model, and blocks beside it, all of the call's own. -/
def DI (w0 w : World) (g : Nat) (ss : Nat → SlcE) (M : Logs) (L : List (Nat × TypeId × List Value)) : Prop :=
  MI w0 w g ss M ∧ ∀ q ∈ L, Blk w q.1 q.2.1 q.2.2 ∧ g ≠ q.1 ∧ w0.heap.size ≤ q.1
section
variable {w0 w w1 : World} {g : Nat} {ss ss' : Nat → SlcE} {M M' : Logs} {L : List (Nat × TypeId × List Value)}
theorem DI.do_ (h : DI w0 w g ss M L) (hg : w.grownBy w1 (some g)) (hm : MdlAt w1 g ss' M') : DI w0 w1 g ss' M' L :=
  ⟨h.1.step hg hm, fun q hq => ⟨(h.2 q hq).1.grown hg (fun e => (h.2 q hq).2.1 (Option.some.inj e).symm), (h.2 q hq).2⟩⟩
theorem DI.keep (h : DI w0 w g ss M L) (hb : Below w.heap.size w w1) : DI w0 w1 g ss M L :=
  ⟨h.1.keep hb, fun q hq => ⟨(h.2 q hq).1.keep hb, (h.2 q hq).2⟩⟩
theorem DI.put (h : DI w0 w g ss M L) {k : Nat} {T : TypeId} {cs : List Value} (hk : Blk w k T cs) (hg : g ≠ k) (h0 : w0.heap.size ≤ k) : DI w0 w g ss M ((k, T, cs) :: L) := ⟨h.1, fun q hq => by
  rcases List.mem_cons.1 hq with rfl | hq
  · exact ⟨hk, hg, h0⟩
  · exact h.2 q hq⟩
theorem DI.alloc (h : DI w0 w g ss M L) (T : TypeId) (cs : List Value) : DI w0 (w.alloc (.cells cs.toArray T)) g ss M ((w.heap.size, T, cs) :: L) :=
  (h.keep ((Below.refl _ _).alloc (Nat.le_refl _) _)).put (Blk.new w T cs) (by have := h.1.2.2.lt; omega) h.1.1.size
theorem DI.add (h : DI w0 w g ss M L) {o : Obj} {T : TypeId} {cs : List Value} (hg : (w.alloc o).grownBy w1 (some w.heap.size)) (hq : Blk w1 w.heap.size T cs) : DI w0 w1 g ss M ((w.heap.size, T, cs) :: L) :=
  (h.keep (below_new hg)).put hq (by have := h.1.2.2.lt; omega) h.1.1.size
theorem DI.blk (h : DI w0 w g ss M L) (k : Nat) {q : Nat × TypeId × List Value} (hq : L[k]? = some q) : Blk w q.1 q.2.1 q.2.2 := (h.2 q (List.mem_of_getElem? hq)).1
/-- The newest block turns. -/
theorem DI.turn {k : Nat} {T : TypeId} {cs cs' : List Value} (h : DI w0 w g ss M ((k, T, cs) :: L)) (hg : w.grownBy w1 (some k)) (hk : Blk w1 k T cs') (hT : T ≠ 84) (hL : ∀ q ∈ L, q.1 ≠ k) : DI w0 w1 g ss M ((k, T, cs') :: L) := by
  obtain ⟨hb, hne, h0⟩ := h.2 _ (List.mem_cons.2 (.inl rfl))
  refine ⟨⟨h.1.1.trans (below_grown hg h0 h.1.1.size), h.1.2.1, h.1.2.2.beside (blk_not hb hT) hg hne⟩, fun q hq => ?_⟩
  rcases List.mem_cons.1 hq with rfl | hq
  · exact ⟨hk, hne, h0⟩
  · have := h.2 q (List.mem_cons.2 (.inr hq))
    exact ⟨this.1.grown hg (fun e => hL q hq (Option.some.inj e)), this.2⟩
theorem DI.perm {L' : List (Nat × TypeId × List Value)} (h : DI w0 w g ss M L) (hs : ∀ q ∈ L', q ∈ L) : DI w0 w g ss M L' := ⟨h.1, fun q hq => h.2 q (hs q hq)⟩
theorem DI.drop {q : Nat × TypeId × List Value} (h : DI w0 w g ss M (q :: L)) : DI w0 w g ss M L := ⟨h.1, fun q' hq => h.2 q' (List.mem_cons.2 (.inr hq))⟩
end
end Go.Proofs.Ytlineikeafepcaa
