/-
  The walk over 'views.Step', of any item.
-/
import Derived.Test.YtelkibmiinjokaaStep0
import Derived.Test.YtelkibmiinjokaaStep1
import Derived.Test.YtelkibmiinjokaaStep2
import Derived.Test.YtelkibmiinjokaaStep3
set_option linter.unusedSimpArgs false
set_option linter.unusedVariables false
set_option maxRecDepth 100000
namespace Go.Proofs.Ytelkibmiinjokaa
open Go Go.RowKit Go.Sq Go.Wd Go.Arch

set_option maxHeartbeats 4000000 in
theorem step_off (t : Tot) (s ix id st ex kd ar code ver : Int) (A : Option Addr) (c : Nat) (evs : List (Int × Int)) (w : World) (hs : s < 0 ∨ 4 ≤ s) :
    Calls Try.prog 36 #[.agg #[.int .i64 t.s0.tag, .bool t.s0.closed, .int .i64 t.s0.sum, .int .i64 t.s0.ver, .int .i64 t.s1.tag, .bool t.s1.closed, .int .i64 t.s1.sum, .int .i64 t.s1.ver, .int .i64 t.s2.tag, .bool t.s2.closed, .int .i64 t.s2.sum, .int .i64 t.s2.ver, .int .i64 t.s3.tag, .bool t.s3.closed, .int .i64 t.s3.sum, .int .i64 t.s3.ver, .int .i64 t.acc, .int .i64 t.con, .int .i64 t.rej, .int .i64 t.sum], .agg #[.int .i64 s, .int .i64 ix, .int .i64 id, .int .i64 st, .int .i64 ex, .int .i64 kd, .int .i64 ar, .int .i64 code, .int .i64 ver, .slice A evs.length c]] w fun e w' =>
      e = .returned (.tuple #[.agg (totv tot0).toArray, .int .i64 2]) ∧ Below w.heap.size w w' := by
  have hw := Below.refl w.heap.size w
  have HZ : Blk (((w.alloc (.cells (totv t).toArray 51)).alloc (.cells (itv ⟨s, ix, id, st, ex, kd, ar, code, ver, (A, evs.length, c), evs⟩).toArray 69)).alloc (.cells (totv tot0).toArray 51)) (w.heap.size + 1 + 1) 51 (totv tot0) := Blk.newAt _ _ (totv tot0) (by simp)
  have hb : Below w.heap.size w (((w.alloc (.cells (totv t).toArray 51)).alloc (.cells (itv ⟨s, ix, id, st, ex, kd, ar, code, ver, (A, evs.length, c), evs⟩).toArray 69)).alloc (.cells (totv tot0).toArray 51)) :=
    (((Below.refl _ _).alloc (Nat.le_refl _) _).alloc (by simp) _).alloc (by simp; omega) _
  have HH := Lib.hid (And.intro HZ hb)
  clear HZ hb
  by_cases h0 : s < 0
  case' pos => clear hs
  case' neg =>
    have h4 : 4 ≤ s := by omega
    clear hs
  all_goals
    go_enter Try.func36, Try.ntmps36
    go_wp2_with ((with_reducible refine at_list ?_); (refine wpList_store_blk rfl 51 _ _ rfl _ (totv tot0) rfl rfl _ _ HH.out.1 tot_info rfl (totv_one _) ?_; intro w8 B8 hb8 hk8))
    have hb : Below w.heap.size w w8 := HH.out.2.trans (hb8 _ (by omega))
    apply ret_of
    · exact results_blk_tmp rfl _ _ _ _ _ _ rfl B8 Try.underlying51 rfl tot_info _ rfl
    · exact ⟨rfl, rfl, hb⟩

theorem step_any (t : Tot) (x : Itm) (w : World) (he : EvsAt w w.heap.size x.sl x.evs) :
    Calls Try.prog 36 #[.agg (totv t).toArray, .agg (itv x).toArray] w fun e w' =>
      e = .returned (.tuple #[.agg (totv (totR (vstepT t x)).1).toArray, .int .i64 (totR (vstepT t x)).2]) ∧ Below w.heap.size w w' := by
  obtain ⟨s, ix, id, st, ex, kd, ar, code, ver, ⟨A, n, c⟩, evs⟩ := x
  obtain rfl : n = evs.length := he.1
  by_cases hs : s < 0 ∨ 4 ≤ s
  · have h : vstepT t ⟨s, ix, id, st, ex, kd, ar, code, ver, (A, evs.length, c), evs⟩ = none := by unfold vstepT; rw [if_pos hs]
    rw [h]
    exact step_off t s ix id st ex kd ar code ver A c evs w hs
  · have h : vstepT t ⟨s, ix, id, st, ex, kd, ar, code, ver, (A, evs.length, c), evs⟩ = stepN t s.toNat ⟨s, ix, id, st, ex, kd, ar, code, ver, (A, evs.length, c), evs⟩ := by unfold vstepT; rw [if_neg hs]
    rw [h]
    obtain rfl | rfl | rfl | rfl : s = 0 ∨ s = 1 ∨ s = 2 ∨ s = 3 := by omega
    · exact step_0 t ix id st ex kd ar code ver A c evs w he
    · exact step_1 t ix id st ex kd ar code ver A c evs w he
    · exact step_2 t ix id st ex kd ar code ver A c evs w he
    · exact step_3 t ix id st ex kd ar code ver A c evs w he
end Go.Proofs.Ytelkibmiinjokaa
