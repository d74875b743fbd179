/-
  The walks over 'views.New', 'Totals' and 'Take'.
-/
import Derived.Test.YtelkibmiinjokaaVAt
import Derived.Test.YtelkibmiinjokaaMidOps
set_option linter.unusedSimpArgs false
set_option linter.unusedVariables false
set_option maxRecDepth 100000
namespace Go.Proofs.Ytelkibmiinjokaa
open Go Go.RowKit Go.Sq Go.Wd Go.Arch

/-- A view's cells. -/
def vwv (t : Tot) (n : Int) : List Value := .bool true :: (totv t ++ [.int .i64 n])
theorem vwv_tot (t : Tot) (n : Int) : ∀ j, j < (totv t).length → (vwv t n)[1 + j]? = (totv t)[j]? := fun j hj => by
  rw [Nat.add_comm, vwv, List.getElem?_cons_succ, List.getElem?_append_left hj]
theorem vw_info : (Try.prog.info? 62).map (·.size) = some 22 := by kernel_rfl

theorem new_view (w : World) : Calls Try.prog 33 #[] w fun e w' => e = .returned (.pointer (some ⟨w.heap.size, 0, none⟩)) ∧ w' = w.alloc (.cells (vwv tot0 0).toArray 62) := by
  go_enter Try.func33, Try.ntmps33
  go_wp2_with fail
  go_ret
  exact ⟨rfl, rfl⟩

set_option maxHeartbeats 4000000 in
theorem totals_any (t : Tot) (n : Int) (g : Nat) (w : World) (hg : Blk w g 62 (vwv t n)) :
    Calls Try.prog 35 #[.pointer (some ⟨g, 0, none⟩)] w fun e w' => e = .returned (.tuple #[.agg (totv t).toArray, .int .i64 n]) ∧ Below w.heap.size w w' := by
  have hw : Below w.heap.size w (w.alloc (.cells (totv tot0).toArray 51)) := (Below.refl _ _).alloc (Nat.le_refl _) _
  have HG := Lib.hid (And.intro hw (And.intro (hg.alloc (.cells (totv tot0).toArray 51)) (Blk.new w 51 (totv tot0))))
  have hlt := hg.lt
  clear hw
  have m0 := hg.cell 0
  simp [vwv] at m0
  go_enter Try.func35, Try.ntmps35
  go_wp2_with fail
  refine wp_region_p ([(0, true), (1, true), (2, true), (3, true), (4, true), (5, true), (6, true), (7, true), (8, false), (9, true)]) (fun w' => Blk w' g 62 (vwv t n) ∧ Below w.heap.size w w') (by kernel_rfl) rfl (by kernel_rfl) (by kernel_rfl) (⟨HG.out.2.1.drew, HG.out.1.drew⟩) rfl ?_
  intro KP RP TP hKP hTP hTP'
  simp only [pick, nth]
  go_wp2_with (first
    | (apply SeqP.skip; rfl; simp only [Act.put, List.setIfInBounds_toArray, List.set_cons_zero, List.set_cons_succ])
    | (apply SeqP.pure; rfl; (intro w2 hw; have hw := hTP _ hw; exact exec_load_part 51 _ rfl _ _ rfl _ _ _ hw.1 (vwv_tot t n) _ Try.underlying51 rfl tot_info); simp only [Act.put, List.setIfInBounds_toArray, List.set_cons_zero, List.set_cons_succ])
    | (apply SeqP.call; rfl; rfl; (intro w2 hw; have hw := hTP _ hw; ((have m1 := hw.1.cell 21; simp [vwv, totv] at m1)); go_simp; exact ⟨rfl, rfl⟩); (intro w2 hw; have hw := hTP _ hw; ((have m1 := hw.1.cell 21; simp [vwv, totv] at m1)); (first | fail)); simp only [Act.put, List.setIfInBounds_toArray, List.set_cons_zero, List.set_cons_succ])
    | (apply SeqP.pure; rfl; (intro w2 hw; have hw := hTP _ hw; ((have m1 := hw.1.cell 21; simp [vwv, totv] at m1)); go_simp; with_reducible rfl); simp only [Act.put, List.setIfInBounds_toArray, List.set_cons_zero, List.set_cons_succ])
    | (apply SeqP.split; rfl; rfl; all_goals (intro hc; simp only [hc]; try simp only [beq_iff_eq, decide_eq_true_eq, beq_eq_false_iff_ne, decide_eq_false_iff_not, bne_iff_ne, ne_eq, Bool.not_eq_true', Bool.not_eq_false', Int.not_le, Int.not_lt, bne_eq_false_iff_eq, Bool.or_eq_true, Bool.and_eq_true, Bool.or_eq_false_iff] at hc)))
  have HZ := HG.out.2.2.drew
  apply SeqP.eff
  · rfl
  intro KE hKE
  refine wp_store_blk 51 _ _ rfl _ (totv t) rfl rfl _ _ HZ tot_info rfl (totv_one _) ?_
  intro w8 B8 hb8 hk8
  have hV := hk8 g _ _ (by omega) HG.out.2.1.drew
  have hb : Below w.heap.size w w8 := HG.out.1.drew.trans (hb8 _ (Nat.le_refl _))
  refine hKE _ _ (hTP' _ ⟨hV, hb⟩) ?_
  clear hKE KE
  go_wp2_with (first
    | (apply SeqP.skip; rfl; simp only [Act.put, List.setIfInBounds_toArray, List.set_cons_zero, List.set_cons_succ])
    | (apply SeqP.call; rfl; rfl; (intro w2 hw; have hw := hTP _ hw; (skip); go_simp; exact ⟨rfl, rfl⟩); (intro w2 hw; have hw := hTP _ hw; (skip); (first | fail)); simp only [Act.put, List.setIfInBounds_toArray, List.set_cons_zero, List.set_cons_succ])
    | (apply SeqP.pure; rfl; (intro w2 hw; have hw := hTP _ hw; (skip); go_simp; with_reducible rfl); simp only [Act.put, List.setIfInBounds_toArray, List.set_cons_zero, List.set_cons_succ])
    | (apply SeqP.split; rfl; rfl; all_goals (intro hc; simp only [hc]; try simp only [beq_iff_eq, decide_eq_true_eq, beq_eq_false_iff_ne, decide_eq_false_iff_not, bne_iff_ne, ne_eq, Bool.not_eq_true', Bool.not_eq_false', Int.not_le, Int.not_lt, bne_eq_false_iff_eq, Bool.or_eq_true, Bool.and_eq_true, Bool.or_eq_false_iff] at hc)))
  apply SeqP.nil
  refine hKP _ _ (hTP' _ (⟨hV, hb⟩)) ?_
  clear hKP hTP hTP'
  go_wp2_with fail
  apply ret_of
  · exact results_blk_tmp rfl _ _ _ _ _ _ rfl (B8) Try.underlying51 rfl tot_info _ rfl
  · exact ⟨rfl, rfl, hb⟩

theorem totals_nil (w : World) : Calls Try.prog 35 #[.pointer none] w fun e w' => e = .returned (.tuple #[.agg (totv tot0).toArray, .int .i64 0]) ∧ Below w.heap.size w w' := by
  have HZ : Blk (w.alloc (.cells (totv tot0).toArray 51)) w.heap.size 51 (totv tot0) := Blk.new w _ _
  have hb : Below w.heap.size w (w.alloc (.cells (totv tot0).toArray 51)) := (Below.refl _ _).alloc (Nat.le_refl _) _
  have HH := Lib.hid (And.intro HZ hb)
  clear HZ hb
  go_enter Try.func35, Try.ntmps35
  go_wp2_with ((with_reducible refine at_list ?_); first | (refine wpList_store_blk rfl 51 _ _ rfl _ (totv tot0) rfl rfl _ _ (HH.out.1) tot_info rfl (totv_one _) ?_; intro w8 B8 hb8 hk8))
  have hb : Below w.heap.size w w8 := HH.out.2.trans (hb8 _ (by omega))
  apply ret_of
  · exact results_blk_tmp rfl _ _ _ _ _ _ rfl (B8) Try.underlying51 rfl tot_info _ rfl
  · exact ⟨rfl, rfl, hb⟩

/-- A view that is there and was never made. -/
theorem totals_unmade (g : Nat) (cs : List Value) (w : World) (hg : Blk w g 62 (.bool false :: cs)) :
    Calls Try.prog 35 #[.pointer (some ⟨g, 0, none⟩)] w fun e w' => e = .returned (.tuple #[.agg (totv tot0).toArray, .int .i64 0]) ∧ Below w.heap.size w w' := by
  have HZ : Blk (w.alloc (.cells (totv tot0).toArray 51)) w.heap.size 51 (totv tot0) := Blk.new w _ _
  have hb : Below w.heap.size w (w.alloc (.cells (totv tot0).toArray 51)) := (Below.refl _ _).alloc (Nat.le_refl _) _
  have HH := Lib.hid (And.intro HZ hb)
  have hlt := hg.lt
  have m0 := hg.cell 0
  simp at m0
  clear HZ hb
  go_enter Try.func35, Try.ntmps35
  go_wp2_with ((with_reducible refine at_list ?_); first | (refine wpList_store_blk rfl 51 _ _ rfl _ (totv tot0) rfl rfl _ _ (HH.out.1) tot_info rfl (totv_one _) ?_; intro w8 B8 hb8 hk8))
  have hb : Below w.heap.size w w8 := HH.out.2.trans (hb8 _ (by omega))
  apply ret_of
  · exact results_blk_tmp rfl _ _ _ _ _ _ rfl (B8) Try.underlying51 rfl tot_info _ rfl
  · exact ⟨rfl, rfl, hb⟩

theorem take_nil (A : Option Addr) (n c : Nat) (w : World) : Calls Try.prog 34 #[.pointer none, .slice A n c] w fun e w' => e = .returned (.int .i64 1) ∧ Below w.heap.size w w' := by
  have hw := Below.refl w.heap.size w
  go_enter Try.func34, Try.ntmps34
  go_wp2_with fail
  go_ret
  exact ⟨rfl, hw⟩
theorem take_unmade (g : Nat) (cs : List Value) (A : Option Addr) (n c : Nat) (w : World) (hg : Blk w g 62 (.bool false :: cs)) :
    Calls Try.prog 34 #[.pointer (some ⟨g, 0, none⟩), .slice A n c] w fun e w' => e = .returned (.int .i64 1) ∧ Below w.heap.size w w' := by
  have hw := Below.refl w.heap.size w
  have hlt := hg.lt
  have m0 := hg.cell 0
  simp at m0
  go_enter Try.func34, Try.ntmps34
  go_wp2_with fail
  go_ret
  exact ⟨rfl, hw⟩
theorem take_short (t : Tot) (v g : Nat) (A : Option Addr) (n c : Nat) (w : World) (hg : Blk w g 62 (vwv t v)) (h : n < v) :
    Calls Try.prog 34 #[.pointer (some ⟨g, 0, none⟩), .slice A n c] w fun e w' => e = .returned (.int .i64 2) ∧ Below w.heap.size w w' := by
  have hw := Below.refl w.heap.size w
  have hlt := hg.lt
  have m0 := hg.cell 0
  have m1 := hg.cell 21
  simp [vwv, totv] at m0 m1
  have h2 : (n : Int) < v := by omega
  go_enter Try.func34, Try.ntmps34
  go_wp2_with fail
  go_ret
  exact ⟨rfl, hw⟩
end Go.Proofs.Ytelkibmiinjokaa
