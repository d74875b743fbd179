/-
  The walk over 'register.May'.
-/
import Derived.Test.YtbicefilfhcgoaaRegApply
set_option linter.unusedSimpArgs false
set_option linter.unusedVariables false
set_option maxRecDepth 100000
namespace Go.Proofs.Ytbicefilfhcgoaa
open Go Go.RowKit Go.Sq Go.Wd Go.Arch

set_option maxHeartbeats 4000000 in
theorem may_any (r : RegS) (sl : SlcE) (x : RecV) (w : World) (hl : LogAt w w.heap.size sl r.log) (hx : LogAt w w.heap.size x.es x.ents) (hx2 : x.ents.length ≤ 1000) :
    Calls Try.prog 20 #[.agg (rgv r sl).toArray, .agg (rcv x).toArray] w fun e w' => e = .returned (.bool (applyR r x.s).isSome) ∧ Below w.heap.size w w' := by
  have hz : Below w.heap.size w ((w.alloc (.cells (rgv r sl).toArray 24)).alloc (.cells (rcv x).toArray 27)) := ((Below.refl _ _).alloc (Nat.le_refl _) _).alloc (by simp) _
  have B0 : Blk ((w.alloc (.cells (rgv r sl).toArray 24)).alloc (.cells (rcv x).toArray 27)) w.heap.size 24 (rgv r sl) := (Blk.new w _ _).alloc _
  have B1 : Blk ((w.alloc (.cells (rgv r sl).toArray 24)).alloc (.cells (rcv x).toArray 27)) (w.heap.size + 1) 27 (rcv x) := Blk.newAt _ _ _ (by simp)
  have HH := Lib.hid (And.intro hz (And.intro B0 (And.intro B1 (And.intro (hl.keep hz) (hx.keep hz)))))
  clear hz B0 B1 hl hx
  have hr : (regR (applyR r x.s)).2 = (applyR r x.s).isSome := by cases applyR r x.s <;> rfl
  have HR := Lib.hid hr
  clear hr
  go_enter Try.func20, Try.ntmps20
  go_wp2_with ((with_reducible refine at_list ?_); first | refine wpList_load_blk rfl 24 _ rfl _ rfl _ _ _ (HH.out.2.1) Try.underlying24 rfl rg_info ?_ | refine wpList_load_blk rfl 27 _ rfl _ rfl _ _ _ (HH.out.2.2.1) Try.underlying27 rfl rc_info ?_)
  refine (apply_any r sl x _ HH.out.2.2.2.1 HH.out.2.2.2.2 hx2).mono ?_
  rintro e w1 ⟨s, rfl, hL, hb⟩
  have hw1 := below_trans HH.out.1 hb HH.out.1.size
  have hz1 := hw1.size
  clear hb hL HH
  go_wp2_with ((with_reducible refine at_list ?_); (refine wpList_store_own rfl 24 _ _ rfl _ (rgv _ s) rfl rfl _ _ (Blk.new w1 24 (rgv reg0 (none, 0, 0))) rg_info rfl (rgv_one _ _) ?_; intro w8 B8 g8))
  have hw8 := (hw1.alloc hz1 (.cells (rgv reg0 (none, 0, 0)).toArray 24)).trans (below_grown g8 hz1 (by simp; omega))
  go_ret
  rw [HR.out]
  exact ⟨rfl, hw8⟩
end Go.Proofs.Ytbicefilfhcgoaa
