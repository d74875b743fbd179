/-
  The walk over 'views.Step', at stream 3.
-/
import Derived.Test.YtelkibmiinjokaaApplyAny
import Derived.Test.YtelkibmiinjokaaItems
import Derived.Deep.LoopGhost
set_option linter.unusedSimpArgs false
set_option linter.unusedVariables false
set_option maxRecDepth 100000
namespace Go.Proofs.Ytelkibmiinjokaa
open Go Go.RowKit Go.Sq Go.Wd Go.Arch

/-- The totals behind the state is stored, and the sum. -/
theorem SI.out3 {w0 w : World} {t : Tot} {x : Itm} {F : St} (h : SI w0 w t x F) : SI w0 (((((w.setCell ⟨w0.heap.size, 12, none⟩ (.int .i64 F.tag)).setCell ⟨w0.heap.size, 13, none⟩ (.bool F.closed)).setCell ⟨w0.heap.size, 14, none⟩ (.int .i64 F.sum)).setCell ⟨w0.heap.size, 15, none⟩ (.int .i64 F.ver)).setCell ⟨w0.heap.size, 19, none⟩ (.int .i64 (wrap64 (t.sum + wrap64 (F.sum - t.s3.sum))))) { t with s3 := F, sum := wrap64 (t.sum + wrap64 (F.sum - t.s3.sum)) } x F := by
  obtain ⟨hw, h0, h1, h2, h3⟩ := h
  refine ⟨by (repeat (first | with_reducible apply Below.drew | with_reducible refine Below.setCell ?_ (by first | exact Nat.le_refl _ | (simp; done) | (simp; omega) | omega) _ | with_reducible refine Below.alloc ?_ (by first | exact Nat.le_refl _ | (simp; done) | (simp; omega) | omega) _ | with_reducible exact Below.refl _ _ | with_reducible assumption)), (((((h0.set 12 (.int .i64 F.tag)).set 13 (.bool F.closed)).set 14 (.int .i64 F.sum)).set 15 (.int .i64 F.ver)).set 19 (.int .i64 (wrap64 (t.sum + wrap64 (F.sum - t.s3.sum))))).of_eq rfl, ?_, ?_, ?_⟩
  · exact ((((h1.far (by simp) _).far (by simp) _).far (by simp) _).far (by simp) _).far (by simp) _
  · exact ((((h2.far (by simp; omega) _).far (by simp; omega) _).far (by simp; omega) _).far (by simp; omega) _).far (by simp; omega) _
  · exact ((((h3.far (by simp; omega) _).far (by simp; omega) _).far (by simp; omega) _).far (by simp; omega) _).far (by simp; omega) _

set_option maxHeartbeats 4000000 in
theorem step_3 (t : Tot) (ix id st ex kd ar code ver : Int) (A : Option Addr) (c : Nat) (evs : List (Int × Int)) (w : World) (he : EvsAt w w.heap.size (A, evs.length, c) evs) :
    Calls Try.prog 36 #[.agg #[.int .i64 t.s0.tag, .bool t.s0.closed, .int .i64 t.s0.sum, .int .i64 t.s0.ver, .int .i64 t.s1.tag, .bool t.s1.closed, .int .i64 t.s1.sum, .int .i64 t.s1.ver, .int .i64 t.s2.tag, .bool t.s2.closed, .int .i64 t.s2.sum, .int .i64 t.s2.ver, .int .i64 t.s3.tag, .bool t.s3.closed, .int .i64 t.s3.sum, .int .i64 t.s3.ver, .int .i64 t.acc, .int .i64 t.con, .int .i64 t.rej, .int .i64 t.sum], .agg #[.int .i64 3, .int .i64 ix, .int .i64 id, .int .i64 st, .int .i64 ex, .int .i64 kd, .int .i64 ar, .int .i64 code, .int .i64 ver, .slice A evs.length c]] w fun e w' =>
      e = .returned (.tuple #[.agg (totv (totR (stepN t 3 ⟨3, ix, id, st, ex, kd, ar, code, ver, (A, evs.length, c), evs⟩)).1).toArray, .int .i64 (totR (stepN t 3 ⟨3, ix, id, st, ex, kd, ar, code, ver, (A, evs.length, c), evs⟩)).2]) ∧ Below w.heap.size w w' := by
  have hw := Below.refl w.heap.size w
  have hl : evs.length ≤ c := he.2.1
  have hc2 : c ≤ 9223372036854775807 := he.2.2.1
  have HE := Lib.hid he
  clear he
  go_enter Try.func36, Try.ntmps36
  go_wp2_with fail
  go_loopg [33] evs.length (fun q i wr => ∃ j : Nat, q = evs.length - j ∧ j ≤ evs.length ∧ i = .int .i64 j ∧ SI w wr t ⟨3, ix, id, st, ex, kd, ar, code, ver, (A, evs.length, c), evs⟩ (foldEv t.s3 (evs.take j)))
  case atStart => exact ⟨0, rfl, by omega, rfl, SI.start w t ⟨3, ix, id, st, ex, kd, ar, code, ver, (A, evs.length, c), evs⟩ t.s3⟩
  case round =>
    obtain ⟨j, hk, hj, rfl, hI⟩ := hrel
    have AA : Aside (gk = evs.length - j) := hk
    clear hk
    by_cases hlt : j < evs.length
    · obtain ⟨b1, o1, e, hA, hee, FA⟩ := HE.out.at_ hlt
      obtain rfl : A = some ⟨b1, o1, none⟩ := hA
      have hS := Lib.hid (foldEv_snoc (s := t.s3) hee.out)
      have hjc : j ≤ c := by omega
      obtain ⟨q0, q1⟩ := FA _ hI.1
      have s0 := hI.2.2.2.2.cell 0
      have s1 := hI.2.2.2.2.cell 1
      have s2 := hI.2.2.2.2.cell 2
      have s3 := hI.2.2.2.2.cell 3
      simp [sv] at s0 s1 s2 s3
      have lt3 := hI.2.2.2.2.lt
      clear FA
      go_wp2_with fail
      refine (apply_any _ _ _ _ _ _ _).mono ?_
      rintro e' w1 ⟨rfl, hb⟩
      have hI1 := hI.keep (below_trans ((Below.refl _ _).alloc (Nat.le_refl _) _) hb (by simp))
      clear hI hb q0 q1 s0 s1 s2 s3
      have f3 := hI1.2.2.2.2.frozen
      have lt4 := hI1.2.2.2.2.lt
      have s0 := hI1.2.2.2.2.cell 0
      have s1 := hI1.2.2.2.2.cell 1
      have s2 := hI1.2.2.2.2.cell 2
      have s3 := hI1.2.2.2.2.cell 3
      simp [sv] at s0 s1 s2 s3
      go_wp2_with fail
      go_roundg (evs.length - (j + 1))
      case measure => have hkk := AA.out; omega
      case rel =>
        refine ⟨j + 1, rfl, by omega, by go_num, ?_⟩
        rw [hS.out]
        exact hI1.put
    · obtain rfl : j = evs.length := by omega
      rw [List.take_length] at hI
      have hX : stepN t 3 ⟨3, ix, id, st, ex, kd, ar, code, ver, (A, evs.length, c), evs⟩ = Tot.code { t with s3 := foldEv t.s3 evs, sum := wrap64 (t.sum + wrap64 ((foldEv t.s3 evs).sum - t.s3.sum)) } code := rfl
      generalize foldEv t.s3 evs = F at hI hX
      have HX := Lib.hid hX
      clear hX
      have s0 := hI.2.2.2.2.cell 0
      have s1 := hI.2.2.2.2.cell 1
      have s2 := hI.2.2.2.2.cell 2
      have s3 := hI.2.2.2.2.cell 3
      have a0 := hI.2.1.cell 12
      have a1 := hI.2.1.cell 13
      have a2 := hI.2.1.cell 14
      have a3 := hI.2.1.cell 15
      have a4 := hI.2.1.cell 19
      have x0 := hI.2.2.1.cell 0
      have fr := hI.2.1.frozen
      have l0 := hI.2.1.lt
      have l1 := hI.2.2.1.lt
      have l3 := hI.2.2.2.2.lt
      simp [sv] at s0 s1 s2 s3
      simp [totv] at a0 a1 a2 a3 a4
      simp [itv] at x0
      have HI2 := Lib.hid (SI.out3 (F := F) hI)
      clear hI
      go_wp2_with (with_reducible refine cut_at 55 rfl ?_)
      have hI := HI2.out
      clear HI2 s0 s1 s2 s3 a0 a1 a2 a3 a4 x0 fr l0 l1 l3
      generalize (((((wr.setCell ⟨w.heap.size, 12, none⟩ (.int .i64 F.tag)).setCell ⟨w.heap.size, 13, none⟩ (.bool F.closed)).setCell ⟨w.heap.size, 14, none⟩ (.int .i64 F.sum)).setCell ⟨w.heap.size, 15, none⟩ (.int .i64 F.ver)).setCell ⟨w.heap.size, 19, none⟩ (.int .i64 (wrap64 (t.sum + wrap64 (F.sum - t.s3.sum))))) = w7 at hI ⊢
      refine Cut.go ?_
      generalize { t with s3 := F, sum := wrap64 (t.sum + wrap64 (F.sum - t.s3.sum)) } = T at hI HX
      have x7 := hI.2.2.1.cell 7
      have b0 := hI.2.1.cell 16
      have b1 := hI.2.1.cell 17
      have b2 := hI.2.1.cell 18
      have fr := hI.2.1.frozen
      have l0 := hI.2.1.lt
      have l1 := hI.2.2.1.lt
      simp [itv] at x7
      simp [totv] at b0 b1 b2
      by_cases c1 : code = 1
      · subst c1
        have HB := hI.2.1.set 16 (.int .i64 (wrap64 (T.acc + 1)))
        have HB : Blk _ _ _ (totv { T with acc := wrap64 (T.acc + 1) }) := HB.of_eq rfl
        have HZ := hI.2.2.2.1.far (p := ⟨w.heap.size, 16, none⟩) (by simp; omega) (.int .i64 (wrap64 (T.acc + 1)))
        go_wp2_with ((with_reducible refine at_list ?_); first | refine wpList_load_blk rfl 51 _ rfl _ rfl _ _ _ HB Try.underlying51 rfl tot_info ?_ | (refine wpList_store_blk rfl 51 _ _ rfl _ (totv _) rfl rfl _ _ HZ tot_info rfl (totv_one _) ?_; intro w8 B8 hb8 hk8))
        have hb : Below w.heap.size w w8 := (hI.1.setCell (Nat.le_refl _) _).trans (hb8 _ (by omega))
        clear hb8 hk8 x7 b0 b1 b2 fr l0 l1
        apply ret_of
        · exact results_blk_tmp rfl _ _ _ _ _ _ rfl B8 Try.underlying51 rfl tot_info _ rfl
        · refine ⟨rfl, ?_, hb⟩
          rw [HX.out]
          rfl
      by_cases c2 : code = 2
      · subst c2
        have HB := hI.2.1.set 17 (.int .i64 (wrap64 (T.con + 1)))
        have HB : Blk _ _ _ (totv { T with con := wrap64 (T.con + 1) }) := HB.of_eq rfl
        have HZ := hI.2.2.2.1.far (p := ⟨w.heap.size, 17, none⟩) (by simp; omega) (.int .i64 (wrap64 (T.con + 1)))
        go_wp2_with ((with_reducible refine at_list ?_); first | refine wpList_load_blk rfl 51 _ rfl _ rfl _ _ _ HB Try.underlying51 rfl tot_info ?_ | (refine wpList_store_blk rfl 51 _ _ rfl _ (totv _) rfl rfl _ _ HZ tot_info rfl (totv_one _) ?_; intro w8 B8 hb8 hk8))
        have hb : Below w.heap.size w w8 := (hI.1.setCell (Nat.le_refl _) _).trans (hb8 _ (by omega))
        clear hb8 hk8 x7 b0 b1 b2 fr l0 l1
        apply ret_of
        · exact results_blk_tmp rfl _ _ _ _ _ _ rfl B8 Try.underlying51 rfl tot_info _ rfl
        · refine ⟨rfl, ?_, hb⟩
          rw [HX.out]
          rfl
      by_cases c3 : code = 3
      · subst c3
        have HB := hI.2.1.set 18 (.int .i64 (wrap64 (T.rej + 1)))
        have HB : Blk _ _ _ (totv { T with rej := wrap64 (T.rej + 1) }) := HB.of_eq rfl
        have HZ := hI.2.2.2.1.far (p := ⟨w.heap.size, 18, none⟩) (by simp; omega) (.int .i64 (wrap64 (T.rej + 1)))
        go_wp2_with ((with_reducible refine at_list ?_); first | refine wpList_load_blk rfl 51 _ rfl _ rfl _ _ _ HB Try.underlying51 rfl tot_info ?_ | (refine wpList_store_blk rfl 51 _ _ rfl _ (totv _) rfl rfl _ _ HZ tot_info rfl (totv_one _) ?_; intro w8 B8 hb8 hk8))
        have hb : Below w.heap.size w w8 := (hI.1.setCell (Nat.le_refl _) _).trans (hb8 _ (by omega))
        clear hb8 hk8 x7 b0 b1 b2 fr l0 l1
        apply ret_of
        · exact results_blk_tmp rfl _ _ _ _ _ _ rfl B8 Try.underlying51 rfl tot_info _ rfl
        · refine ⟨rfl, ?_, hb⟩
          rw [HX.out]
          rfl
      have d1 : (code == 1) = false := by rw [beq_eq_false_iff_ne]; omega
      have d2 : (code == 2) = false := by rw [beq_eq_false_iff_ne]; omega
      have d3 : (code == 3) = false := by rw [beq_eq_false_iff_ne]; omega
      · have HZ := hI.2.2.2.1
        go_wp2_with ((with_reducible refine at_list ?_); (refine wpList_store_blk rfl 51 _ _ rfl _ (totv tot0) rfl rfl _ _ HZ tot_info rfl (totv_one _) ?_; intro w8 B8 hb8 hk8))
        have hb : Below w.heap.size w w8 := (hI.1).trans (hb8 _ (by omega))
        clear hb8 hk8 x7 b0 b1 b2 fr l0 l1
        apply ret_of
        · exact results_blk_tmp rfl _ _ _ _ _ _ rfl B8 Try.underlying51 rfl tot_info _ rfl
        · refine ⟨rfl, ?_, hb⟩
          rw [HX.out]
          unfold Tot.code
          rw [if_neg c1, if_neg c2, if_neg c3]
          rfl
end Go.Proofs.Ytelkibmiinjokaa
