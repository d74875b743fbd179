/-
  A model beside two rows: what orders were told, and whether they were taken.
-/
import Derived.Test.YtlineikeafepcaaMdlLaw2
import Derived.Test.YtlineikeafepcaaMdlSame
import Derived.Test.YtlineikeafepcaaMdlLives
set_option linter.unusedSimpArgs false
set_option linter.unusedVariables false
set_option maxRecDepth 100000
namespace Go.Proofs.Ytlineikeafepcaa
open Go Go.RowKit Go.Sq Go.Wd Go.Arch

/-- A model in memory of the call's own. -/
def MI (w0 w : World) (g : Nat) (ss : Nat → SlcE) (M : Logs) : Prop := Below w0.heap.size w0 w ∧ w0.heap.size ≤ g ∧ MdlAt w g ss M
section
variable {w0 w w1 : World} {g g2 : Nat} {ss ss' ss2 : Nat → SlcE} {M M' M2 : Logs}
theorem MI.step (h : MI w0 w g ss M) (hg : w.grownBy w1 (some g)) (hm : MdlAt w1 g ss' M') : MI w0 w1 g ss' M' :=
  ⟨h.1.trans (below_grown hg h.2.1 h.1.size), h.2.1, hm⟩
theorem MI.keep (h : MI w0 w g ss M) (hb : Below w.heap.size w w1) : MI w0 w1 g ss M := ⟨below_trans h.1 hb h.1.size, h.2.1, h.2.2.keep hb⟩
theorem MI.new (w0 : World) : MI w0 (w0.alloc (.cells #[.bool true, .slice none 0 0, .slice none 0 0, .slice none 0 0, .slice none 0 0] 52)) w0.heap.size noSl noLogs :=
  ⟨(Below.refl _ _).alloc (Nat.le_refl _) _, Nat.le_refl _, mdl_new w0⟩
/-- A row of another type, above the model, turns. -/
theorem MI.row (h : MI w0 w g ss M) {T : TypeId} {size n B : Nat} {v : Value} {xs : List Value} (hr : w.ownsRow B T size v n xs) (hT : T ≠ 84) (hB : g < B) (hg : w.grownBy w1 v.ownBlock) : MI w0 w1 g ss M := by
  cases hv : v.ownBlock with
  | none =>
    rw [hv] at hg
    exact h.keep ⟨hg.os, hg.tape, hg.output, hg.size, fun k hk => hg.block k hk (by simp)⟩
  | some q =>
    rw [hv] at hg
    have hq := (hr.lt q hv).1
    exact ⟨h.1.trans (below_grown hg (by have := h.2.1; omega) h.1.size), h.2.1, h.2.2.beside (own_not hr hv hT) hg (by omega)⟩
end
theorem own_row {w w' : World} {B B' : Nat} {T U : TypeId} {s1 s2 n1 n2 : Nat} {v u : Value} {xs ys : List Value} (h : w.ownsRow B T s1 v n1 xs) (hr : w.ownsRow B' U s2 u n2 ys) (hT : U ≠ T) (hg : w.grownBy w' u.ownBlock) : w'.ownsRow B T s1 v n1 xs := by
  cases hu : u.ownBlock with
  | none =>
    rw [hu] at hg
    exact h.kept hg (by cases hv : v.ownBlock <;> simp)
  | some q =>
    rw [hu] at hg
    exact own_beside h hg (own_not hr hu hT)
/-- Whether they were taken. -/
def BRow (w : World) (B : Nat) (v : Value) (bs : List Bool) : Prop := w.ownsRow B 4 1 v bs.length (bs.map Value.bool) ∧ (bs = [] → v = .slice none 0 0)
theorem bool_info : (Try.prog.info? 4).map (fun i => (i.zero, i.size, i.bytes)) = some (some (.bool false), 1, 1) := by kernel_rfl
theorem BRow.nil (w : World) (B : Nat) : BRow w B (.slice none 0 0) [] := ⟨World.ownsRow_nil _ _ _ _, fun _ => rfl⟩
theorem BRow.far {w w' : World} {B k : Nat} {v : Value} {bs : List Bool} (h : BRow w B v bs) (hg : w.grownBy w' (some k)) (hk : k < B) : BRow w' B v bs := ⟨h.1.kept hg (by
  cases hv : v.ownBlock with
  | none => exact .inl rfl
  | some g => exact .inr (fun e => by have := (h.1.lt g hv).1; cases e; omega)), h.2⟩
theorem BRow.keep {w w' : World} {B : Nat} {v : Value} {bs : List Bool} (h : BRow w B v bs) (hb : Below w.heap.size w w') : BRow w' B v bs := ⟨h.1.kept (only_of_below hb none) (by
  cases hv : v.ownBlock with
  | none => exact .inl rfl
  | some g => exact .inr (fun e => by cases e)), h.2⟩
theorem BRow.head {w : World} {B q : Nat} {v : Value} {bs : List Bool} (h : BRow w B v bs) (hq : v.ownBlock = some q) : ∃ b, w.cell? ⟨q, 0, none⟩ = some (.bool b) := by
  cases bs with
  | nil => rw [h.2 rfl] at hq; cases hq
  | cons b bs =>
    obtain ⟨g, c, rfl, _, _⟩ := World.ownsRow.form h.1 (by simp)
    have e : g = q := by simpa [Value.ownBlock] using hq
    subst e
    exact ⟨b, by rw [h.1.cellAt 0 (by simp)]; rfl⟩
theorem BRow.at_ {w : World} {B : Nat} {v : Value} {bs : List Bool} (h : BRow w B v bs) {j : Nat} {b : Bool} (hb : bs[j]? = some b) : ∃ g c, v = .slice (some ⟨g, 0, none⟩) bs.length c ∧ g < w.heap.size ∧ w.cell? ⟨g, j, none⟩ = some (.bool b) := by
  have hj := (List.getElem?_eq_some_iff.1 hb).1
  obtain ⟨g, c, rfl, _, hg⟩ := World.ownsRow.form h.1 (by omega)
  exact ⟨g, c, rfl, hg, by rw [h.1.cellAt j (by omega), List.getElem?_map, hb]; rfl⟩
theorem BRow.snoc {W : World} {B : Nat} {v : Value} {bs : List Bool} (h : BRow W B v bs) (b : Bool) (hn : bs.length < 1000000) (hB : B ≤ W.heap.size) :
    ∃ v' w', (Builtin.append_ #[55, 55] 55 #[v, .slice (some ⟨W.heap.size, 0, none⟩) 1 1]).run Try.prog (W.alloc (.cells #[.bool b] 4)) = .ok v' w' ∧ BRow w' B v' (bs ++ [b]) ∧ W.grownBy w' v.ownBlock := by
  obtain ⟨v', w', hr, ho, hg, _⟩ := append_one (P := Try.prog) 55 Try.underlying55 bool_info rfl (by omega) h.1 [.bool b] rfl (by simp; rfl) (by simp only [maxLen]; omega) (by omega) hB rfl
  refine ⟨v', w', hr, ⟨?_, fun e => by simp at e⟩, hg⟩
  rw [List.length_append, List.map_append]
  exact ho
theorem EvAt.off {w w' : World} {B q : Nat} {own : Option Nat} {sl : Sl} {evs : List (Int × Int)} (h : EvAt w B own sl evs) (hg : w.grownBy w' (some q)) (hq : ∃ b, w.cell? ⟨q, 0, none⟩ = some (.bool b)) : EvAt w' B own sl evs := by
  rcases h with h | ⟨g, k, a, h1, h2, h3, h4, h5, h6, h7, h8, h9⟩
  · exact .inl h
  · have hne : some g ≠ some q := by
      intro e
      cases e
      obtain ⟨b, hb⟩ := hq
      rw [h6] at hb
      cases hb
    have hbl := hg.block g h4 hne
    exact .inr ⟨g, k, a, h1, h2, h3, Nat.lt_of_lt_of_le h4 hg.size, h5, (World.cell?_of_block (a := ⟨g, 0, none⟩) hbl).trans h6, (World.cell?_of_block (a := ⟨g, 1, none⟩) hbl).trans h7,
      (World.frozen?_of_block (a := ⟨g, 0, none⟩) hbl).trans h8, (World.frozen?_of_block (a := ⟨g, 1, none⟩) hbl).trans h9⟩
theorem Outs.bools {w w' : World} {B B' : Nat} {v u : Value} {outs : List OutS} {bs : List Bool} (h : Outs w B v outs) (hr : BRow w B' u bs) (hg : w.grownBy w' u.ownBlock) : Outs w' B v outs := by
  cases hu : u.ownBlock with
  | none =>
    rw [hu] at hg
    exact h.keep hg (fun g e => by cases e)
  | some q =>
    rw [hu] at hg
    obtain ⟨ps, h1, h2, h3⟩ := h
    exact ⟨ps, h1, own_beside h2 hg (own_not hr.1 hu (by decide)), fun p hp => (h3 p hp).off hg (hr.head hu)⟩
/-- New events beside an older row. -/
theorem EvAt.newer {w : World} {B B' : Nat} {own : Option Nat} {sl : Sl} {evs : List (Int × Int)} (h : EvAt w B none sl evs) (ho : ∀ q, own = some q → q < B) (hB : B' ≤ B) : EvAt w B' own sl evs := by
  rcases h with h | ⟨g, k, a, h1, h2, h3, h4, h5, h6⟩
  · exact .inl h
  · refine .inr ⟨g, k, a, h1, h2, by omega, h4, ?_, h6⟩
    intro e
    have := ho g e.symm
    omega

/-- A model, and both rows. -/
def TI (w0 w : World) (g : Nat) (ss : Nat → SlcE) (M : Logs) (v : Value) (outs : List OutS) (u : Value) (bs : List Bool) : Prop :=
  MI w0 w g ss M ∧ Outs w (g + 1) v outs ∧ BRow w (g + 1) u bs
section
variable {w0 w w1 : World} {g : Nat} {ss ss' : Nat → SlcE} {M M' : Logs} {v u v' u' : Value} {outs : List OutS} {bs : List Bool}
theorem TI.do_ (h : TI w0 w g ss M v outs u bs) (hg : w.grownBy w1 (some g)) (hm : MdlAt w1 g ss' M') : TI w0 w1 g ss' M' v outs u bs :=
  ⟨h.1.step hg hm, h.2.1.keep hg (fun q e => by cases e; omega), h.2.2.far hg (by omega)⟩
theorem TI.keep (h : TI w0 w g ss M v outs u bs) (hb : Below w.heap.size w w1) : TI w0 w1 g ss M v outs u bs :=
  ⟨h.1.keep hb, h.2.1.pure hb, h.2.2.keep hb⟩
/-- One more told. -/
theorem TI.tell (h : TI w0 w g ss M v outs u bs) (p : OutS) (sl : Sl) (he : EvAt w (g + 1) v.ownBlock sl p.2.2) (hn : outs.length < 1000000) :
    ∃ v' w', (Builtin.append_ #[54, 54] 54 #[v, .slice (some ⟨w.heap.size, 0, none⟩) 1 1]).run Try.prog (w.alloc (.cells #[.int .i64 p.1, .int .i64 p.2.1, .slice sl.1 sl.2.1 sl.2.2] 32)) = .ok v' w' ∧
      Hid (TI w0 w' g ss M v' (outs ++ [p]) u bs) := by
  obtain ⟨v', w', hr, ho, hg, _⟩ := h.2.1.snoc p sl he hn (by have := h.1.2.2.lt; omega) rfl 54
  obtain ⟨ps, _, h2, _⟩ := h.2.1
  exact ⟨v', w', hr, Lib.hid ⟨h.1.row h2 (by decide) (by omega) hg, ho, own_row h.2.2.1 h2 (by decide) hg, h.2.2.2⟩⟩
theorem TI.take_ (h : TI w0 w g ss M v outs u bs) (b : Bool) (hn : bs.length < 1000000) :
    ∃ u' w', (Builtin.append_ #[55, 55] 55 #[u, .slice (some ⟨w.heap.size, 0, none⟩) 1 1]).run Try.prog (w.alloc (.cells #[.bool b] 4)) = .ok u' w' ∧
      Hid (TI w0 w' g ss M v outs u' (bs ++ [b])) := by
  obtain ⟨u', w', hr, ho, hg⟩ := h.2.2.snoc b hn (by have := h.1.2.2.lt; omega)
  exact ⟨u', w', hr, Lib.hid ⟨h.1.row h.2.2.1 (by decide) (by omega) hg, h.2.1.bools h.2.2 hg, ho⟩⟩
end
end Go.Proofs.Ytlineikeafepcaa
