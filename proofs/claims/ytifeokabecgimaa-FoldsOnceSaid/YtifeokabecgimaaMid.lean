/-
  What a region that appends twice, asks Of and lays down a state holds on to, in whatever order it comes.
-/
import Derived.Test.YtifeokabecgimaaCopy
import Derived.Test.YtifeokabecgimaaFoldW
import Derived.Test.YtifeokabecgimaaFoldSame
import Derived.Test.YtifeokabecgimaaSeqT
set_option linter.unusedSimpArgs false
set_option linter.unusedVariables false
set_option maxRecDepth 100000
namespace Go.Proofs.Ytifeokabecgimaa
open Go Go.RowKit Go.Sq Go.Wd Go.Arch

/-- A list of outcomes, beside a block g9 that is written still. -/
def OutsK (B : Nat) (w : World) (v : Value) (outs : List OutS) (g9 : Option Nat) : Prop :=
  ∃ (w0 : World) (B2 : Nat), Outs w0 B2 v outs ∧ B ≤ B2 ∧ w0.heap.size ≤ w.heap.size ∧ (∀ b, B2 ≤ b → b < w0.heap.size → w.heap[b]? = w0.heap[b]?) ∧ ∀ g, g9 = some g → g < B2 ∨ w0.heap.size ≤ g

theorem OutsK.keep {B : Nat} {w w' : World} {v : Value} {outs : List OutS} {g9 : Option Nat} (h : OutsK B w v outs g9) (hb : Below w.heap.size w w') : OutsK B w' v outs g9 := by
  obtain ⟨w0, B2, h1, h0, h2, h3, h4⟩ := h
  exact ⟨w0, B2, h1, h0, Nat.le_trans h2 hb.size, fun b q1 q2 => (hb.block b (by omega)).trans (h3 b q1 q2), h4⟩
theorem OutsK.next {B : Nat} {w w' : World} {v : Value} {outs : List OutS} (h : OutsK B w v outs none) (hb : Below w.heap.size w w') : OutsK B w' v outs (some w.heap.size) := by
  obtain ⟨w0, B2, h1, h0, h2, h3, h4⟩ := h
  refine ⟨w0, B2, h1, h0, Nat.le_trans h2 hb.size, fun b q1 q2 => (hb.block b (by omega)).trans (h3 b q1 q2), fun g e => ?_⟩
  cases e
  exact .inr h2
theorem OutsK.set {B : Nat} {w : World} {v : Value} {outs : List OutS} {g : Nat} (h : OutsK B w v outs (some g)) {p : Addr} (hp : p.block = g) (u : Value) : OutsK B (w.setCell p u) v outs (some g) := by
  obtain ⟨w0, B2, h1, h0, h2, h3, h4⟩ := h
  refine ⟨w0, B2, h1, h0, by simpa [World.setCell] using h2, fun b q1 q2 => ?_, h4⟩
  rw [Below.heap_setCell _ _ _ _ (by rcases h4 g rfl with h | h <;> omega)]
  exact h3 b q1 q2
/-- Outcomes in memory from B on. -/
def OutsB (B : Nat) (w : World) (v : Value) (outs : List OutS) : Prop :=
  ∃ A c, v = .slice A outs.length c ∧ outs.length ≤ c ∧ c ≤ 9223372036854775807 ∧ ∀ k o, outs[k]? = some o → ∃ (g : Nat) (sl : Sl), A = some ⟨g, 0, none⟩ ∧ B ≤ g ∧ g < w.heap.size ∧ EvAt w B none sl o.2.2 ∧
    w.cell? ⟨g, k * 3, none⟩ = some (.int .i64 o.1) ∧ w.cell? ⟨g, k * 3 + 1, none⟩ = some (.int .i64 o.2.1) ∧ w.cell? ⟨g, k * 3 + 2, none⟩ = some (.slice sl.1 sl.2.1 sl.2.2)
theorem OutsB.toR {B : Nat} {w : World} {v : Value} {outs : List OutS} (h : OutsB B w v outs) : OutsR w v outs := by
  obtain ⟨A, c, h1, h2, h3, h4⟩ := h
  refine ⟨A, c, h1, h2, h3, fun k o hk => ?_⟩
  obtain ⟨g, sl, q1, _, q2, q3, q4⟩ := h4 k o hk
  exact ⟨g, sl, q1, q2, q3.read, q4⟩
theorem OutsK.toB {B : Nat} {w : World} {v : Value} {outs : List OutS} {g9 : Option Nat} (h : OutsK B w v outs g9) : OutsB B w v outs := by
  obtain ⟨w0, B2, h1, h0, h2, h3, h4⟩ := h
  obtain ⟨A, c, hv, q1, q2, _⟩ := h1.toR
  refine ⟨A, c, hv, q1, q2, fun k o hk => ?_⟩
  have hlt : k < outs.length := (List.getElem?_eq_some_iff.1 hk).1
  obtain ⟨g, cap, o', sl, hv', ho', hB, hg, _, _, he, c0, c1, c2⟩ := h1.read hlt
  rw [hv] at hv'
  cases hv'
  rw [hk] at ho'
  cases ho'
  have hbk := h3 g hB hg
  refine ⟨g, sl, rfl, by omega, by omega, ?_, (World.cell?_of_block (a := ⟨g, _, none⟩) hbk).trans c0, (World.cell?_of_block (a := ⟨g, _, none⟩) hbk).trans c1, (World.cell?_of_block (a := ⟨g, _, none⟩) hbk).trans c2⟩
  rcases he with he | ⟨ge, k', a, e1, e2, e3, e4, e5, e6, e7, e8, e9⟩
  · exact .inl he
  · have hbe := h3 ge e3 e4
    exact .inr ⟨ge, k', a, e1, e2, by omega, by omega, by simp, (World.cell?_of_block (a := ⟨ge, 0, none⟩) hbe).trans e6, (World.cell?_of_block (a := ⟨ge, 1, none⟩) hbe).trans e7,
      (World.frozen?_of_block (a := ⟨ge, 0, none⟩) hbe).trans e8, (World.frozen?_of_block (a := ⟨ge, 1, none⟩) hbe).trans e9⟩

/-- The bundle: a row v of entries l, a literal x of entries, a state's block g. -/
structure Mid (wr w : World) (vo : Option (Value × List Ent)) (xo : Option (Nat × List Ent)) (so : Option Nat) : Prop where
  hb : Below wr.heap.size wr w
  row : ∀ v l, vo = some (v, l) → Row w wr.heap.size v l
  box : ∀ g es, xo = some (g, es) → Blk w g 45 (flat es) ∧ wr.heap.size ≤ g ∧ ∀ v l, vo = some (v, l) → v.ownBlock ≠ some g
  st : ∀ g, so = some g → Blk w g 25 (stv ⟨0, false, 0, 0⟩) ∧ wr.heap.size ≤ g ∧ ∀ v l, vo = some (v, l) → v.ownBlock ≠ some g

section
variable {wr w w' : World} {vo : Option (Value × List Ent)} {xo : Option (Nat × List Ent)} {so : Option Nat}
theorem Mid.start (wr : World) : Mid wr wr.drew none none none := ⟨(Below.refl _ _).drew, fun _ _ h => (by cases h), fun _ _ h => (by cases h), fun _ h => (by cases h)⟩
theorem Mid.keep (h : Mid wr w vo xo so) (hb : Below w.heap.size w w') : Mid wr w' vo xo so :=
  ⟨below_trans h.hb hb h.hb.size, fun v l e => (h.row v l e).keep hb, fun g es e => ⟨(h.box g es e).1.keep hb, (h.box g es e).2⟩, fun g e => ⟨(h.st g e).1.keep hb, (h.st g e).2⟩⟩
theorem Mid.row0 (h : Mid wr w none xo so) : Mid wr (w.alloc (.cells #[] 45)) (some (.slice (some ⟨w.heap.size, 0, none⟩) 0 0, [])) xo so := by
  have hb : Below w.heap.size w (w.alloc (.cells #[] 45)) := (Below.refl _ _).alloc (Nat.le_refl _) _
  have h1 := h.keep hb
  refine ⟨h1.hb, fun v l e => ?_, fun g es e => ⟨(h1.box g es e).1, (h1.box g es e).2.1, fun v l e' => ?_⟩, fun g e => ⟨(h1.st g e).1, (h1.st g e).2.1, fun v l e' => ?_⟩⟩
  · cases e
    obtain ⟨q1, q2⟩ := Row.empty w
    exact ⟨q1, q2.imp id fun ⟨g, cap, cur, a, b, c⟩ => ⟨g, cap, cur, a, Nat.le_trans h.hb.size b, c⟩⟩
  · cases e'
    have := (h.box g es e).1.lt
    intro e2
    have : w.heap.size = g := by simpa [Value.ownBlock] using e2
    omega
  · cases e'
    have := (h.st g e).1.lt
    intro e2
    have : w.heap.size = g := by simpa [Value.ownBlock] using e2
    omega
theorem Mid.lit (h : Mid wr w vo none so) (es : List Ent) : Mid wr (w.alloc (.cells (flat es).toArray 45)) vo (some (w.heap.size, es)) so := by
  have hb : Below w.heap.size w (w.alloc (.cells (flat es).toArray 45)) := (Below.refl _ _).alloc (Nat.le_refl _) _
  have h1 := h.keep hb
  refine ⟨h1.hb, h1.row, fun g es' e => ?_, h1.st⟩
  cases e
  refine ⟨Blk.new w _ _, h.hb.size, fun v l e' e2 => ?_⟩
  have := (World.ownsRow.lt (h.row v l e') _ e2).2
  omega
theorem Mid.state (h : Mid wr w vo xo none) : Mid wr (w.alloc (.cells (stv ⟨0, false, 0, 0⟩).toArray 25)) vo xo (some w.heap.size) := by
  have hb : Below w.heap.size w (w.alloc (.cells (stv ⟨0, false, 0, 0⟩).toArray 25)) := (Below.refl _ _).alloc (Nat.le_refl _) _
  have h1 := h.keep hb
  refine ⟨h1.hb, h1.row, h1.box, fun g e => ?_⟩
  cases e
  refine ⟨Blk.new w _ _, h.hb.size, fun v l e' e2 => ?_⟩
  have := (World.ownsRow.lt (h.row v l e') _ e2).2
  omega
theorem Mid.grow {v v' : Value} {l l' : List Ent} (h : Mid wr w (some (v, l)) xo so) (hg : w.grownBy w' v.ownBlock) (hr : Row w' wr.heap.size v' l') (ho : v'.ownBlock = v.ownBlock ∨ v'.ownBlock = some w.heap.size) : Mid wr w' (some (v', l')) xo so := by
  refine ⟨below_own h.hb hg (h.row v l rfl) h.hb.size, fun v2 l2 e => (by cases e; exact hr), fun g es e => ?_, fun g e => ?_⟩
  · obtain ⟨h1, h2, h3⟩ := h.box g es e
    refine ⟨h1.grown hg (fun e => h3 v l rfl e.symm), h2, fun v2 l2 e' e2 => ?_⟩
    cases e'
    rcases ho with ho | ho
    · exact h3 v l rfl (ho.symm.trans e2)
    · have := h1.lt
      have : w.heap.size = g := Option.some.inj (ho.symm.trans e2)
      omega
  · obtain ⟨h1, h2, h3⟩ := h.st g e
    refine ⟨h1.grown hg (fun e => h3 v l rfl e.symm), h2, fun v2 l2 e' e2 => ?_⟩
    cases e'
    rcases ho with ho | ho
    · exact h3 v l rfl (ho.symm.trans e2)
    · have := h1.lt
      have : w.heap.size = g := Option.some.inj (ho.symm.trans e2)
      omega
theorem Mid.app1 {v : Value} (h : Mid wr w (some (v, [])) xo so) {l : List Ent} {A : Option Addr} (c : Nat) (ha : Ents wr wr.heap.size A l) (hl : l.length ≤ 2000) :
    ∃ v' w', (Builtin.append_ #[22, 22] 22 #[v, .slice A l.length c]).run Try.prog w = .ok v' w' ∧ Mid wr w' (some (v', l)) xo so := by
  obtain ⟨v', w', h1, h2, h3, h4⟩ := (h.row _ _ rfl).app A c ((ha.below h.hb).more h.hb.size) (by simpa using hl) h.hb.size
  exact ⟨v', w', h1, h.grow h3 (by simpa using h2) h4⟩
theorem Mid.app2 {v : Value} {l es : List Ent} {g : Nat} (h : Mid wr w (some (v, l)) (some (g, es)) so) (c : Nat) (hl : l.length + es.length ≤ 2000) :
    ∃ v' w', (Builtin.append_ #[22, 22] 22 #[v, .slice (some ⟨g, 0, none⟩) es.length c]).run Try.prog w = .ok v' w' ∧ Mid wr w' (some (v', l ++ es)) (some (g, es)) so := by
  have hE : Ents w w.heap.size (some ⟨g, 0, none⟩) es := fun _ => by
    have hb := (h.box g es rfl).1
    refine ⟨_, _, rfl, hb.lt, fun i e he => ?_⟩
    have hc : ∀ k, k < 6 → w.cell? ⟨g, i * 6 + k, none⟩ = (vals e)[k]? := fun k hk => by rw [hb.cell, flat_get es i e k he hk]
    unfold EntAt
    rw [Nat.zero_add]
    exact ⟨hc 0 (by omega), hc 1 (by omega), hc 2 (by omega), hc 3 (by omega), hc 4 (by omega), hc 5 (by omega)⟩
  obtain ⟨v', w', h1, h2, h3, h4⟩ := (h.row _ _ rfl).app _ c hE hl h.hb.size
  exact ⟨v', w', h1, h.grow h3 h2 h4⟩
theorem Mid.of {v : Value} {l : List Ent} (h : Mid wr w (some (v, l)) xo so) (hl : l.length ≤ 2000) (hwf : ∀ e ∈ l, (Lit.int .i64 e.2.1).wf = true) :
    Calls Try.prog 15 #[v] w fun e w' => ∃ v2, e = .returned (.tuple #[.agg (stv (foldS l).1).toArray, v2]) ∧ Mid wr w' (some (v, l)) xo so ∧ OutsK wr.heap.size w' v2 (foldS l).2 so := by
  obtain ⟨A, c, rfl, _, _, hE⟩ := (h.row _ _ rfl).form
  refine (of_any l A c w hE hl hwf).mono ?_
  rintro e w' ⟨v2, rfl, h1, h2⟩
  refine ⟨v2, rfl, h.keep h2, w', w.heap.size + 2, h1, by have := h.hb.size; omega, Nat.le_refl _, fun _ _ _ => rfl, fun g e => .inl ?_⟩
  have := (h.st g e).1.lt
  omega
theorem Mid.stored {g : Nat} (h : Mid wr w vo xo (some g)) {v2 : Value} {outs : List OutS} (ho : OutsK wr.heap.size w v2 outs (some g)) (s : St) {Z : World}
    (hZ : Z = (((w.setCell ⟨g, 0, none⟩ (.int .i64 s.tag)).setCell ⟨g, 1, none⟩ (.bool s.closed)).setCell ⟨g, 2, none⟩ (.int .i64 s.sum)).setCell ⟨g, 3, none⟩ (.int .i64 s.ver)) :
    Below wr.heap.size wr Z ∧ Blk Z g 25 (stv s) ∧ OutsB wr.heap.size Z v2 outs ∧ wr.heap.size ≤ g := by
  subst hZ
  obtain ⟨h1, h2, _⟩ := h.st g rfl
  refine ⟨(((h.hb.setCell h2 _).setCell h2 _).setCell h2 _).setCell h2 _, ((((h1.set 0 (.int .i64 s.tag)).set 1 (.bool s.closed)).set 2 (.int .i64 s.sum)).set 3 (.int .i64 s.ver)).of_eq rfl, ?_, h2⟩
  exact ((((ho.set (p := ⟨g, 0, none⟩) rfl _).set (p := ⟨g, 1, none⟩) rfl _).set (p := ⟨g, 2, none⟩) rfl _).set (p := ⟨g, 3, none⟩) rfl _).toB
end
/-- What all ends come to: said once, for whatever act they share. -/
theorem merge6 {Inv : Nat → Value → Nat → Value → Value → Nat → World → Prop} {K : Act → World → Prop} {G : Prop} (A : Nat → Value → Nat → Value → Value → Nat → Act)
    (h1 : (∀ a b c d e f w', Inv a b c d e f w' → K (A a b c d e f) w') → G) (h2 : ∀ a b c d e f w', Inv a b c d e f w' → K (A a b c d e f) w') : G := h1 h2
end Go.Proofs.Ytifeokabecgimaa
