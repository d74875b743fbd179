/-
  The walk over 'works' of the statements on lists.
-/
import Derived.Test.YtelkibmiinjokaaTwin
import Derived.Test.YtelkibmiinjokaaInts
import Derived.Test.YtelkibmiinjokaaRegs
set_option linter.unusedSimpArgs false
set_option linter.unusedVariables false
set_option maxRecDepth 100000
namespace Go.Proofs.Ytelkibmiinjokaa
open Go.RowKit Go.Sq Go.Wd

def eA : Ent := (1, 0, 0, 0, 0, 0)
def eB : Ent := (1, 1, 0, 0, 0, 0)
def eC : Ent := (3, 0, 0, 0, 0, 0)

def regs4 (b : Nat) : List RegV := [(0, 2, (some ⟨b, 0, none⟩, 1, 3), 0), (0, 3, (none, 0, 0), 0), (0, 3, (some ⟨b, 0, none⟩, 2, 3), 0), (0, 3, (some ⟨b, 6, none⟩, 2, 2), 0)]

/-- What 'works' holds on to: its entries, its log. -/
def WK (w0 w : World) (h : Nat) : Prop :=
  Below w0.heap.size w0 w ∧ Blk w h 41 (vals eA) ∧ Blk w (h + 1 + 1) 41 (vals eC) ∧ Blk w (h + 1 + 1 + 1) 41 (flat [eA, eB, eC]) ∧ w0.heap.size ≤ w.heap.size

theorem WK.pure {w0 w w' : World} {h : Nat} (k : WK w0 w h) (hb : Below w.heap.size w w') : WK w0 w' h := by
  obtain ⟨h1, h2, h3, h4, h5⟩ := k
  exact ⟨below_trans h1 hb h5, h2.keep hb, h3.keep hb, h4.keep hb, Nat.le_trans h5 hb.size⟩
theorem WK.alloc {w0 w : World} {h : Nat} (k : WK w0 w h) (o : Obj) : WK w0 (w.alloc o) h := k.pure ((Below.refl _ _).alloc (Nat.le_refl _) _)
theorem ents_blk {w : World} {b : Nat} {L : List Ent} (h : Blk w b 41 (flat L)) : Ents w w.heap.size (some ⟨b, 0, none⟩) L := by
  refine fun hl => ⟨b, 0, rfl, h.lt, fun i e hi => ?_⟩
  have key : ∀ k, k < 6 → w.cell? ⟨b, i * 6 + k, none⟩ = (vals e)[k]? := fun k hk => by
    rw [h.cell]; exact flat_get L i e k hi hk
  rw [Nat.zero_add]
  exact ⟨key 0 (by omega), key 1 (by omega), key 2 (by omega), key 3 (by omega), key 4 (by omega), key 5 (by omega)⟩
theorem WK.loads {w0 w : World} {h : Nat} (k : WK w0 w h) :
    (w.cell? ⟨h, 0, none⟩ = some (.int .i64 1) ∧ w.cell? ⟨h, 1, none⟩ = some (.int .i64 0) ∧ w.cell? ⟨h, 2, none⟩ = some (.int .i64 0) ∧ w.cell? ⟨h, 3, none⟩ = some (.int .i64 0) ∧ w.cell? ⟨h, 4, none⟩ = some (.int .i64 0) ∧ w.cell? ⟨h, 5, none⟩ = some (.int .i64 0)) ∧
    (w.cell? ⟨h + 1 + 1, 0, none⟩ = some (.int .i64 3) ∧ w.cell? ⟨h + 1 + 1, 1, none⟩ = some (.int .i64 0) ∧ w.cell? ⟨h + 1 + 1, 2, none⟩ = some (.int .i64 0) ∧ w.cell? ⟨h + 1 + 1, 3, none⟩ = some (.int .i64 0) ∧ w.cell? ⟨h + 1 + 1, 4, none⟩ = some (.int .i64 0) ∧ w.cell? ⟨h + 1 + 1, 5, none⟩ = some (.int .i64 0)) :=
  ⟨⟨k.2.1.cell 0, k.2.1.cell 1, k.2.1.cell 2, k.2.1.cell 3, k.2.1.cell 4, k.2.1.cell 5⟩, ⟨k.2.2.1.cell 0, k.2.2.1.cell 1, k.2.2.1.cell 2, k.2.2.1.cell 3, k.2.2.1.cell 4, k.2.2.1.cell 5⟩⟩
theorem WK.log {w0 w : World} {h : Nat} (k : WK w0 w h) : Ents w w.heap.size (some ⟨h + 1 + 1 + 1, 0, none⟩) [eA, eB, eC] := ents_blk k.2.2.2.1

def regs4c (b : Nat) : List Value := [.int .i64 0, .int .i64 2, .slice (some ⟨b, 0, none⟩) 1 3, .int .i64 0, .int .i64 0, .int .i64 3, .slice none 0 0, .int .i64 0, .int .i64 0, .int .i64 3, .slice (some ⟨b, 0, none⟩) 2 3, .int .i64 0, .int .i64 0, .int .i64 3, .slice (some ⟨b, 6, none⟩) 2 2, .int .i64 0]

theorem works_world (w W : World) (hW : W = World.drew (World.alloc (World.alloc (World.alloc (World.alloc (World.alloc w (.cells (vals eA).toArray 41)) (.cells (vals eB).toArray 41)) (.cells (vals eC).toArray 41)) (.cells (flat [eA, eB, eC]).toArray 41)) (.cells (regs4c (w.heap.size + 1 + 1 + 1)).toArray 43))) : WK w W w.heap.size ∧ Regs W W.heap.size (some ⟨w.heap.size + 1 + 1 + 1 + 1, 0, none⟩) (regs4 (w.heap.size + 1 + 1 + 1)) := by
  have hw := Below.refl w.heap.size w
  subst hW
  refine ⟨⟨by (repeat (first | with_reducible apply Below.drew | with_reducible refine Below.setCell ?_ (by first | exact Nat.le_refl _ | (simp; done) | (simp; omega) | omega) _ | with_reducible refine Below.alloc ?_ (by first | exact Nat.le_refl _ | (simp; done) | (simp; omega) | omega) _ | with_reducible exact Below.refl _ _ | with_reducible assumption)), ?_, ?_, ?_, ?_⟩, ?_⟩
  · exact ((((Blk.new w _ _).alloc _).alloc _).alloc _).alloc _
  · exact ((Blk.newAt _ _ _ (by simp)).alloc _).alloc _
  · exact (Blk.newAt _ _ _ (by simp)).alloc _
  · simp; omega
  · have hR := Blk.newAt (World.alloc (World.alloc (World.alloc (World.alloc w (.cells (vals eA).toArray 41)) (.cells (vals eB).toArray 41)) (.cells (vals eC).toArray 41)) (.cells (flat [eA, eB, eC]).toArray 41)) 43 (regs4c (w.heap.size + 1 + 1 + 1)) (H := w.heap.size + 1 + 1 + 1 + 1) (by simp)
    have hR := hR.drew
    refine fun _ => ⟨_, 0, rfl, hR.lt, ?_⟩
    intro i r hi
    have hlt : i < 4 := (List.getElem?_eq_some_iff.1 hi).1
    rw [Nat.zero_add]
    obtain rfl | rfl | rfl | rfl : i = 0 ∨ i = 1 ∨ i = 2 ∨ i = 3 := by omega
    all_goals
      simp [regs4] at hi
      subst hi
      exact ⟨hR.cell _, hR.cell _, hR.cell _, hR.cell _⟩

set_option maxHeartbeats 2000000 in
theorem works_any (w : World) : Calls Try.prog 20 #[] w fun e w' => e = .returned (.bool true) ∧ Below w.heap.size w w' := by
  have hw := Below.refl w.heap.size w
  go_enter Try.func20, Try.ntmps20
  go_wp2_with fail
  refine wp_region_p ([(0, true), (1, true), (2, true), (3, true), (4, true), (5, true), (6, true), (7, true), (8, true), (9, true), (10, false), (11, false), (12, true)]) (fun w' => Below w.heap.size w w') (by kernel_rfl) rfl (by kernel_rfl) (by kernel_rfl) (by (repeat (first | with_reducible apply Below.drew | with_reducible refine Below.setCell ?_ (by first | exact Nat.le_refl _ | (simp; done) | (simp; omega) | omega) _ | with_reducible refine Below.alloc ?_ (by first | exact Nat.le_refl _ | (simp; done) | (simp; omega) | omega) _ | with_reducible exact Below.refl _ _ | with_reducible assumption))) rfl ?_
  intro KP RP TP hKP hTP hTP'
  simp only [pick, nth]
  go_wp2_with (first
    | (apply SeqP.skip; rfl; simp only [Act.put, List.setIfInBounds_toArray, List.set_cons_zero, List.set_cons_succ])
    | (apply SeqP.call; rfl; rfl; (intro w2 hw; have hw := hTP _ hw; (skip); go_simp; exact ⟨rfl, rfl⟩); (intro w2 hw; have hw := hTP _ hw; (skip); (first | fail)); simp only [Act.put, List.setIfInBounds_toArray, List.set_cons_zero, List.set_cons_succ])
    | (apply SeqP.pure; rfl; (intro w2 hw; have hw := hTP _ hw; (skip); go_simp; with_reducible rfl); simp only [Act.put, List.setIfInBounds_toArray, List.set_cons_zero, List.set_cons_succ])
    | (apply SeqP.split; rfl; rfl; all_goals (intro hc; simp only [hc]; try simp only [beq_iff_eq, decide_eq_true_eq, beq_eq_false_iff_ne, decide_eq_false_iff_not, bne_iff_ne, ne_eq, Bool.not_eq_true', Bool.not_eq_false', Int.not_le, Int.not_lt, bne_eq_false_iff_eq, Bool.or_eq_true, Bool.and_eq_true, Bool.or_eq_false_iff] at hc)))
  apply SeqP.eff
  · rfl
  intro KE hKE
  go_wp2_with fail
  refine hKE _ _ (hTP' _ (by (repeat (first | with_reducible apply Below.drew | with_reducible refine Below.setCell ?_ (by first | exact Nat.le_refl _ | (simp; done) | (simp; omega) | omega) _ | with_reducible refine Below.alloc ?_ (by first | exact Nat.le_refl _ | (simp; done) | (simp; omega) | omega) _ | with_reducible exact Below.refl _ _ | with_reducible assumption)))) ?_
  clear hKE
  obtain ⟨hW, hG⟩ := works_world w _ rfl
  apply SeqP.eff
  · rfl
  intro KE hKE
  go_wp2_with fail
  refine (best_any (regs4 (w.heap.size + 1 + 1 + 1)) _ _ _ hG (by simp [regs4])).mono ?_
  rintro e w1 ⟨rfl, hb⟩
  have hW1 := hW.pure hb
  clear hW hG
  have hbest : bestL ((regs4 (w.heap.size + 1 + 1 + 1)).map rankOf) = 2 := by rfl
  rw [hbest]
  clear hbest
  refine hKE _ _ (hTP' _ hW1.1) ?_
  clear hKE hb
  go_wp2_with (first
    | (apply SeqP.skip; rfl; simp only [Act.put, List.setIfInBounds_toArray, List.set_cons_zero, List.set_cons_succ])
    | (apply SeqP.call; rfl; rfl; (intro w2 hw; have hw := hTP _ hw; (skip); go_simp; exact ⟨rfl, rfl⟩); (intro w2 hw; have hw := hTP _ hw; (skip); (first | fail)); simp only [Act.put, List.setIfInBounds_toArray, List.set_cons_zero, List.set_cons_succ])
    | (apply SeqP.pure; rfl; (intro w2 hw; have hw := hTP _ hw; (skip); go_simp; with_reducible rfl); simp only [Act.put, List.setIfInBounds_toArray, List.set_cons_zero, List.set_cons_succ])
    | (apply SeqP.split; rfl; rfl; all_goals (intro hc; simp only [hc]; try simp only [beq_iff_eq, decide_eq_true_eq, beq_eq_false_iff_ne, decide_eq_false_iff_not, bne_iff_ne, ne_eq, Bool.not_eq_true', Bool.not_eq_false', Int.not_le, Int.not_lt, bne_eq_false_iff_eq, Bool.or_eq_true, Bool.and_eq_true, Bool.or_eq_false_iff] at hc)))
  apply SeqP.nil
  refine hKP _ _ (hTP' _ (hW1.1)) ?_
  clear hKP hTP hTP'
  go_wp2_with fail
  refine (prefix_any [eA, eB] [eA, eB, eC] _ _ _ _ _ (hW1.log.take 2) hW1.log (by decide) (by decide) (by decide) (by decide)).mono ?_
  rintro e w2 ⟨rfl, hb⟩
  have hW2 := hW1.pure hb
  rw [show decide ([eA, eB] <+: [eA, eB, eC]) = true from by decide]
  clear hW1 hb
  have HW := Lib.hid hW2
  obtain ⟨⟨a0, a1, a2, a3, a4, a5⟩, ⟨c0, c1, c2, c3, c4, c5⟩⟩ := hW2.loads
  clear hW2
  go_wp2_with fail
  clear a0 a1 a2 a3 a4 a5 c0 c1 c2 c3 c4 c5
  refine (prefix_any [eA, eC] [eA, eB, eC] _ _ _ _ _ (ents_blk (Blk.new w2 41 (flat [eA, eC]))) (HW.out.alloc _).log (by decide) (by decide) (by decide) (by decide)).mono ?_
  rintro e w3 ⟨rfl, hb⟩
  have hW3 := (HW.out.alloc _).pure hb
  rw [show decide ([eA, eC] <+: [eA, eB, eC]) = false from by decide]
  clear HW hb
  have HW := Lib.hid hW3
  obtain ⟨⟨a0, a1, a2, a3, a4, a5⟩, ⟨c0, c1, c2, c3, c4, c5⟩⟩ := hW3.loads
  clear hW3
  go_wp2_with fail
  clear a0 a1 a2 a3 a4 a5 c0 c1 c2 c3 c4 c5
  refine (common_any [eA, eB, eC] [eA, eC] _ _ _ _ _ (HW.out.alloc _).log (ents_blk (Blk.new w3 41 (flat [eA, eC]))) (by decide) (by decide)).mono ?_
  rintro e w4 ⟨rfl, hb⟩
  have hW4 := (HW.out.alloc _).pure hb
  rw [show commonL [eA, eB, eC] [eA, eC] = 1 from by decide]
  clear HW hb
  go_wp2_with fail
  refine (rising_any [eA, eB, eC] _ _ _ hW4.log (by decide)).mono ?_
  rintro e w5 ⟨rfl, hb⟩
  have hW5 := hW4.pure hb
  rw [show risesB [eA, eB, eC] = true from by decide]
  clear hW4 hb
  have HW := Lib.hid hW5
  obtain ⟨⟨a0, a1, a2, a3, a4, a5⟩, ⟨c0, c1, c2, c3, c4, c5⟩⟩ := hW5.loads
  clear hW5
  go_wp2_with fail
  clear a0 a1 a2 a3 a4 a5 c0 c1 c2 c3 c4 c5
  refine (rising_any [eC, eA] _ _ _ (ents_blk (Blk.new w5 41 (flat [eC, eA]))) (by decide)).mono ?_
  rintro e w6 ⟨rfl, hb⟩
  have hW6 := (HW.out.alloc _).pure hb
  rw [show risesB [eC, eA] = false from by decide]
  clear HW hb
  go_wp2_with fail
  refine (seals_any [eA, eB, eC] _ _ _ hW6.log (by decide)).mono ?_
  rintro e w7 ⟨v, rfl, hv, hb⟩
  have hW7 := hW6.pure hb
  have hI := Ints.of_own hv
  rw [show sealsL [eA, eB, eC] = [2, 3] from by decide] at hI
  clear hW6 hb hv
  go_wp2_with fail
  have hB7 := Below.refl w7.heap.size w7
  refine (sameInts_any [2, 3] [2, 3] _ _ _ ((hI.below (hB7.alloc (Nat.le_refl _) _)).more (by simp)) ⟨_, _, rfl, fun _ => ⟨_, 0, rfl, by simp, ?_⟩⟩ (by decide) (by decide)).mono ?_
  · intro i x hi
    have hN := Blk.new w7 3 [.int .i64 2, .int .i64 3]
    have hlt : i < 2 := (List.getElem?_eq_some_iff.1 hi).1
    rw [Nat.zero_add]
    obtain rfl | rfl : i = 0 ∨ i = 1 := by omega
    all_goals
      simp at hi
      subst hi
      exact hN.cell _
  rintro e w8 ⟨rfl, hb⟩
  have hW8 := (hW7.alloc _).pure hb
  rw [show decide (([2, 3] : List Int) = [2, 3]) = true from by decide]
  clear hI hb hW7 hB7
  go_wp2_with fail
  go_ret
  exact ⟨rfl, hW8.1⟩
end Go.Proofs.Ytelkibmiinjokaa
