/-
  Registers that are held in variables, and what chapter 15's statements call beside register itself.
-/
import Derived.Test.YtbicefilfhcgoaaRegSame
set_option linter.unusedSimpArgs false
set_option linter.unusedVariables false
set_option maxRecDepth 100000
namespace Go.Proofs.Ytbicefilfhcgoaa
open Go Go.RowKit Go.Sq Go.Wd Go.Arch

theorem wp_store_own {P : Program} {w : World} {o : Oper} {a : Act} {K : Act → World → Prop} {Q : Exit → Act → World → Prop} (ty : TypeId) (x y : Operand) (ho : o.op = .store ty x y)
    (g : Nat) (cs : List Value) (hx : a.eval x = .pointer (some ⟨g, 0, none⟩)) (hy : a.eval y = .agg cs.toArray) (t : TypeId) (old : List Value) (hg : Blk w g t old)
    (hi : (P.info? ty).map (·.size) = some cs.length) (hold : old.length = cs.length) (h1 : ∀ v ∈ cs, v.oneCell' = true)
    (h : ∀ w', Blk w' g t cs → w.grownBy w' (some g) → K (a.put o.dst undef) w') : o.wp P a w K Q :=
  wp_store_row ty x y ho g cs.toArray hx hy t old.toArray hg (by simpa using hi) (by simpa using hold)
    (Array.all_eq_true_iff_forall_mem.2 (fun v hv => h1 v (by simpa using hv)))
    (h _ (hg.row cs) (grown_setRow w g _))
/-- A log does not lie in a block that is shorter than an entry. -/
theorem LogAt.stored {w w' : World} {g : Nat} {T : TypeId} {cs : List Value} {sl : SlcE} {l : List Ent} (h : LogAt w w.heap.size sl l) (hZ : Blk w g T cs) (hc : cs.length ≤ 5) (hg : w.grownBy w' (some g)) : LogAt w' w'.heap.size sl l := by
  rcases Nat.eq_zero_or_pos l.length with h0 | h0
  · obtain rfl : l = [] := List.eq_nil_of_length_eq_zero h0
    exact ⟨h.1, h.2.1, h.2.2.1, Ents.nil⟩
  · refine h.apart (Nat.le_refl _) hg (fun b o ho hbg => ?_)
    subst hbg
    obtain ⟨b2, off, ha, hb, hE⟩ := h.2.2.2 h0
    rw [ho] at ha
    cases ha
    obtain ⟨_, _, _, _, _, h5⟩ := hE 0 _ (List.getElem?_eq_getElem h0)
    rw [hZ.cell, List.getElem?_eq_none (by omega)] at h5
    cases h5
/-- Blocks that hold registers. -/
def HeldR (w : World) (L : List (Nat × RegS × SlcE)) : Prop := ∀ q ∈ L, Blk w q.1 24 (rgv q.2.1 q.2.2) ∧ LogAt w w.heap.size q.2.2 q.2.1.log
theorem HeldR.nil {w : World} : HeldR w [] := by intro q hq; cases hq
theorem HeldR.add {w : World} {L : List (Nat × RegS × SlcE)} {g : Nat} {r : RegS} {s : SlcE} (h : HeldR w L) (hb : Blk w g 24 (rgv r s)) (hl : LogAt w w.heap.size s r.log) : HeldR w ((g, r, s) :: L) := by
  intro q hq
  rcases List.mem_cons.1 hq with rfl | hq
  · exact ⟨hb, hl⟩
  · exact h q hq
theorem HeldR.keep {w w' : World} {L : List (Nat × RegS × SlcE)} (h : HeldR w L) (hb : Below w.heap.size w w') : HeldR w' L := fun q hq => ⟨(h q hq).1.keep hb, (h q hq).2.keep hb⟩
theorem HeldR.drew {w : World} {L : List (Nat × RegS × SlcE)} (h : HeldR w L) : HeldR w.drew L := h.keep (Below.refl _ _).drew
theorem HeldR.blk {w : World} {L : List (Nat × RegS × SlcE)} (h : HeldR w L) (k : Nat) {q : Nat × RegS × SlcE} (hq : L[k]? = some q) : Blk w q.1 24 (rgv q.2.1 q.2.2) := (h q (List.mem_of_getElem? hq)).1
theorem HeldR.log {w : World} {L : List (Nat × RegS × SlcE)} (h : HeldR w L) (k : Nat) {q : Nat × RegS × SlcE} (hq : L[k]? = some q) : LogAt w w.heap.size q.2.2 q.2.1.log := (h q (List.mem_of_getElem? hq)).2

/-- A new variable that holds what was told. -/
theorem below_new {w w' : World} {o : Obj} (hg : (w.alloc o).grownBy w' (some w.heap.size)) : Below w.heap.size w w' := ((Below.refl _ _).alloc (Nat.le_refl _) o).trans (below_grown hg (Nat.le_refl _) (by simp))

/-- A continuation of a drawn region's step, with the world behind a letter. -/
theorem eff_abs {K' : Act → World → Prop} {T : World → Prop} {W : Act → World → Prop} {a : Act} {w1 : World} (hKE : ∀ a' w', T w' → W a' w' → K' a' w') (J : World → Prop) (hJ : J w1) (hT : ∀ w', J w' → T w') (h : ∀ w', J w' → W a w') : K' a w1 := hKE _ _ (hT _ hJ) (h _ hJ)
theorem merge3 {G : Prop} (Inv : Nat → Nat → SlcE → World → Prop) (K : Act → World → Prop) {F : Nat → Nat → SlcE → Act} (h1 : (∀ g k s w', Inv g k s w' → K (F g k s) w') → G) (h2 : ∀ g k s w', Inv g k s w' → K (F g k s) w') : G := h1 h2

theorem apply_to {r a : RegS} (sl : SlcE) (x : RecV) (w : World) (h : applyR r x.s = some a) (hl : LogAt w w.heap.size sl r.log) (hx : LogAt w w.heap.size x.es x.ents) (hx2 : x.ents.length ≤ 1000) :
    Calls Try.prog 16 #[.agg (rgv r sl).toArray, .agg (rcv x).toArray] w fun e w' => ∃ s : SlcE, e = .returned (.tuple #[.agg (rgv a s).toArray, .bool true]) ∧ LogAt w' w'.heap.size s a.log ∧ Below w.heap.size w w' := by
  refine (apply_any r sl x w hl hx hx2).mono ?_
  rintro e w1 ⟨s, he, hL, hb⟩
  rw [h] at he hL
  exact ⟨s, he, hL.1, hb⟩
/-- And it lies in memory of its own. -/
theorem apply_own {r a : RegS} (sl : SlcE) (x : RecV) (w : World) (h : applyR r x.s = some a) (hl : LogAt w w.heap.size sl r.log) (hx : LogAt w w.heap.size x.es x.ents) (hx2 : x.ents.length ≤ 1000) :
    Calls Try.prog 16 #[.agg (rgv r sl).toArray, .agg (rcv x).toArray] w fun e w' => ∃ s : SlcE, e = .returned (.tuple #[.agg (rgv a s).toArray, .bool true]) ∧ (LogAt w' w'.heap.size s a.log ∧ ∀ b o, s.1 = some ⟨b, o, none⟩ → w.heap.size ≤ b) ∧ Below w.heap.size w w' := by
  refine (apply_any r sl x w hl hx hx2).mono ?_
  rintro e w1 ⟨s, he, hL, hb⟩
  rw [h] at he hL
  exact ⟨s, he, hL, hb⟩
theorem may_to {r : RegS} (b : Bool) (sl : SlcE) (x : RecV) (w : World) (h : (applyR r x.s).isSome = b) (hl : LogAt w w.heap.size sl r.log) (hx : LogAt w w.heap.size x.es x.ents) (hx2 : x.ents.length ≤ 1000) :
    Calls Try.prog 20 #[.agg (rgv r sl).toArray, .agg (rcv x).toArray] w fun e w' => e = .returned (.bool b) ∧ Below w.heap.size w w' := by
  rw [← h]
  exact may_any r sl x w hl hx hx2

theorem entry15_any (id ep : Int) (w : World) :
    Calls Try.prog 25 #[.int .i64 id, .int .i64 ep] w fun e w' => e = .returned (.agg (vals (ep, id, 0, -1, 2, 1)).toArray) ∧ Below w.heap.size w w' := by
  have hw := Below.refl w.heap.size w
  unfold vals
  go_enter Try.func25, Try.ntmps25
  go_wp2_with fail
  apply ret_of
  · simp only [results, Try.results25]
    go_simp
    with_reducible rfl
  refine ⟨rfl, ?_⟩
  exact ⟨rfl, by (repeat (first | with_reducible apply Below.drew | with_reducible refine Below.setCell ?_ (by first | exact Nat.le_refl _ | (simp; done) | (simp; omega) | omega) _ | with_reducible refine Below.alloc ?_ (by first | exact Nat.le_refl _ | (simp; done) | (simp; omega) | omega) _ | with_reducible exact Below.refl _ _ | with_reducible assumption))⟩

theorem great15_any (x : RecV) (w : World) (hx : LogAt w w.heap.size x.es x.ents) :
    Calls Try.prog 14 #[.agg (rcv x).toArray] w fun e w' => e = .returned (.bool (decide (200 < x.ents.length))) ∧ Below w.heap.size w w' := by
  have hw := Below.refl w.heap.size w
  have hl := hx.1
  unfold rcv
  rw [hl]
  clear hl hx
  have hd : decide ((200 : Int) < (x.ents.length : Int)) = decide (200 < x.ents.length) := decide_eq_decide.2 (by omega)
  go_enter Try.func14, Try.ntmps14
  go_wp2_with fail
  go_ret
  exact ⟨ret_bool (by first | exact hd | rfl | simp), hw.alloc (Nat.le_refl _) _⟩

/-- One literal entry. -/
theorem lit_log (w : World) (e : Ent) : LogAt (w.alloc (.cells (vals e).toArray 44)) (w.alloc (.cells (vals e).toArray 44)).heap.size (some ⟨w.heap.size, 0, none⟩, 1, 1) [e] := by
  have hb := Blk.new w 44 (vals e)
  refine ⟨rfl, Nat.le_refl _, by simp, fun _ => ⟨_, 0, rfl, hb.lt, fun i x hx => ?_⟩⟩
  have hi := (List.getElem?_eq_some_iff.1 hx).1
  obtain rfl : i = 0 := by simpa using hi
  cases hx
  exact ⟨hb.cell 0, hb.cell 1, hb.cell 2, hb.cell 3, hb.cell 4, hb.cell 5⟩
end Go.Proofs.Ytbicefilfhcgoaa
