/-
  The walk over 'register.Base'.
-/
import Derived.Test.YtbicefilfhcgoaaRegMay
set_option linter.unusedSimpArgs false
set_option linter.unusedVariables false
set_option maxRecDepth 100000
namespace Go.Proofs.Ytbicefilfhcgoaa
open Go Go.RowKit Go.Sq Go.Wd Go.Arch

theorem rcv_one (x : RecV) : ∀ v ∈ rcv x, v.oneCell' = true := by simp [rcv, Value.oneCell']
def rec0 : RecV := ⟨0, 0, 0, 0, 0, 0, (none, 0, 0), [], (none, 0, 0)⟩

set_option maxHeartbeats 4000000 in
theorem base_any (s : Int) (r : RegS) (sl : SlcE) (w : World) (hl : LogAt w w.heap.size sl r.log) (h2 : r.log.length ≤ 2000) :
    Calls Try.prog 26 #[.int .i64 s, .agg (rgv r sl).toArray] w fun e w' => ∃ es : SlcE, e = .returned (.agg (rcv ⟨4, s, r.prom, r.view, 0, r.com, es, r.log, (none, 0, 0)⟩).toArray) ∧ Row w' w.heap.size (.slice es.1 es.2.1 es.2.2) r.log ∧ Below w.heap.size w w' := by
  obtain ⟨A, n, c⟩ := sl
  obtain rfl : n = r.log.length := hl.1
  have hz : Below w.heap.size w ((w.alloc (.cells (rgv r (A, r.log.length, c)).toArray 24)).alloc (.cells (rcv rec0).toArray 27)) := ((Below.refl _ _).alloc (Nat.le_refl _) _).alloc (by simp) _
  have B0 : Blk ((w.alloc (.cells (rgv r (A, r.log.length, c)).toArray 24)).alloc (.cells (rcv rec0).toArray 27)) w.heap.size 24 (rgv r (A, r.log.length, c)) := (Blk.new w _ _).alloc _
  have B1 : Blk ((w.alloc (.cells (rgv r (A, r.log.length, c)).toArray 24)).alloc (.cells (rcv rec0).toArray 27)) (w.heap.size + 1) 27 (rcv rec0) := Blk.newAt _ _ _ (by simp)
  have hc := clone_any r.log A c _ ((hl.keep hz).keep (Below.refl _ _).drew) h2
  have HH := Lib.hid (And.intro hz (And.intro B0 (And.intro B1 hc)))
  clear hz B0 B1 hc hl
  go_enter Try.func26, Try.ntmps26
  go_wp2_with fail
  refine wp_region_p ([(0, true), (1, true), (2, true), (3, true), (4, true), (5, true), (6, true), (7, true), (8, true), (9, false), (10, true), (11, false)]) (fun w' => Below w.heap.size w w' ∧ Blk w' w.heap.size 24 (rgv r (A, r.log.length, c))) (by kernel_rfl) rfl (by kernel_rfl) (by kernel_rfl) (⟨HH.out.1.drew, HH.out.2.1.drew⟩) rfl ?_
  intro KP RP TP hKP hTP hTP'
  simp only [pick, nth]
  go_wp2_with (first
    | (apply SeqP.skip; rfl; simp only [Act.put, List.setIfInBounds_toArray, List.set_cons_zero, List.set_cons_succ])
    | (apply SeqP.call; rfl; rfl; (intro w2 hw; have hw := hTP _ hw; ((have z0 := hw.2.cell 0; have z1 := hw.2.cell 1; have z2 := hw.2.cell 2; have z3 := hw.2.cell 3; simp [rgv] at z0 z1 z2 z3)); go_simp; exact ⟨rfl, rfl⟩); (intro w2 hw; have hw := hTP _ hw; ((have z0 := hw.2.cell 0; have z1 := hw.2.cell 1; have z2 := hw.2.cell 2; have z3 := hw.2.cell 3; simp [rgv] at z0 z1 z2 z3)); (first | fail)); simp only [Act.put, List.setIfInBounds_toArray, List.set_cons_zero, List.set_cons_succ])
    | (apply SeqP.pure; rfl; (intro w2 hw; have hw := hTP _ hw; ((have z0 := hw.2.cell 0; have z1 := hw.2.cell 1; have z2 := hw.2.cell 2; have z3 := hw.2.cell 3; simp [rgv] at z0 z1 z2 z3)); go_simp; with_reducible rfl); simp only [Act.put, List.setIfInBounds_toArray, List.set_cons_zero, List.set_cons_succ])
    | (apply SeqP.split; rfl; rfl; all_goals (intro hc; simp only [hc]; try simp only [beq_iff_eq, decide_eq_true_eq, beq_eq_false_iff_ne, decide_eq_false_iff_not, bne_iff_ne, ne_eq, Bool.not_eq_true', Bool.not_eq_false', Int.not_le, Int.not_lt, bne_eq_false_iff_eq, Bool.or_eq_true, Bool.and_eq_true, Bool.or_eq_false_iff] at hc)))
  apply SeqP.eff
  · rfl
  intro KE hKE
  go_wp2_with fail
  refine HH.out.2.2.2.mono ?_
  rintro e w1 ⟨v, rfl, hR, hb⟩
  obtain ⟨es, rfl, -⟩ := hR.log
  have hw1 := below_trans HH.out.1.drew hb HH.out.1.size
  have C0 := HH.out.2.1.drew.keep hb
  have C1 := HH.out.2.2.1.drew.keep hb
  have l1 := C1.lt
  refine hKE _ _ (hTP' _ ⟨hw1, C0⟩) ?_
  clear hKE KE hb HH
  go_wp2_with (first
    | (apply SeqP.skip; rfl; simp only [Act.put, List.setIfInBounds_toArray, List.set_cons_zero, List.set_cons_succ])
    | (apply SeqP.call; rfl; rfl; (intro w2 hw; have hw := hTP _ hw; (skip); go_simp; exact ⟨rfl, rfl⟩); (intro w2 hw; have hw := hTP _ hw; (skip); (first | fail)); simp only [Act.put, List.setIfInBounds_toArray, List.set_cons_zero, List.set_cons_succ])
    | (apply SeqP.pure; rfl; (intro w2 hw; have hw := hTP _ hw; (skip); go_simp; with_reducible rfl); simp only [Act.put, List.setIfInBounds_toArray, List.set_cons_zero, List.set_cons_succ])
    | (apply SeqP.split; rfl; rfl; all_goals (intro hc; simp only [hc]; try simp only [beq_iff_eq, decide_eq_true_eq, beq_eq_false_iff_ne, decide_eq_false_iff_not, bne_iff_ne, ne_eq, Bool.not_eq_true', Bool.not_eq_false', Int.not_le, Int.not_lt, bne_eq_false_iff_eq, Bool.or_eq_true, Bool.and_eq_true, Bool.or_eq_false_iff] at hc)))
  apply SeqP.eff
  · rfl
  intro KE hKE
  refine wp_store_blk 27 _ _ rfl _ (rcv ⟨4, s, r.prom, r.view, 0, r.com, es, r.log, (none, 0, 0)⟩) rfl rfl _ _ C1 rc_info rfl (rcv_one _) ?_
  intro w8 B8 hb8 hk8
  have hw8 := hw1.trans (hb8 _ (by omega))
  have C8 := hk8 _ _ _ (by omega) C0
  have R8 := hR.blkFar hk8 (by simp)
  refine hKE _ _ (hTP' _ ⟨hw8, C8⟩) ?_
  clear hKE KE
  apply SeqP.nil
  refine hKP _ _ (hTP' _ (⟨hw8, C8⟩)) ?_
  clear hKP hTP hTP'
  go_wp2_with fail
  apply ret_of
  · exact results_blk rfl _ _ _ _ _ _ rfl B8 Try.underlying27 rfl rc_info
  · exact ⟨rfl, es, rfl, Row.base R8 (by simp; omega), hw8⟩
end Go.Proofs.Ytbicefilfhcgoaa
