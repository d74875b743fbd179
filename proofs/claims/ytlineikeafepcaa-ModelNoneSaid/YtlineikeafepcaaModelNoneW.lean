/-
  The walk over the statement ModelNone.
-/
import Derived.Test.YtlineikeafepcaaMdlNone
import Derived.Test.YtlineikeafepcaaMdlLivesW
set_option linter.unusedSimpArgs false
set_option linter.unusedVariables false
set_option maxRecDepth 100000
namespace Go.Proofs.Ytlineikeafepcaa
open Go Go.RowKit Go.Sq Go.Wd Go.Arch

theorem neq_st (w : World) (s : St) : (binOp .neq 40 (.agg (stv s).toArray) (.agg (stv s).toArray)).run Try.prog w = .ok (.bool false) w := by
  have g0 := Try.underlying40
  simp [stv, go_sem]
theorem ans_info : (Try.prog.info? 47).map (·.size) = some 3 := by kernel_rfl

set_option maxHeartbeats 4000000 in
theorem modelNone_walk (o : Ord) (s : Int) (a : Ans) (w : World) :
    Calls Try.prog 4 #[.agg (ordv o).toArray, .int .i64 s, .agg (ansv a).toArray] w fun r w' => r = .returned (.bool true) ∧ Below w.heap.size w w' := by
  have hW : Below w.heap.size w ((w.alloc (.cells (ordv o).toArray 37)).alloc (.cells (ansv a).toArray 47)) := ((Below.refl _ _).alloc (Nat.le_refl _) _).alloc (by simp) _
  have BO := (Blk.new w 37 (ordv o)).alloc (.cells (ansv a).toArray 47)
  have BA := Blk.new1 w (.cells (ordv o).toArray 37) 47 (ansv a)
  have HH := Lib.hid (And.intro hW (And.intro BO BA))
  clear hW BO BA
  go_enter Try.func4, Try.ntmps4
  go_wp2_with fail
  generalize ((w.alloc (.cells (ordv o).toArray 37)).alloc (.cells (ansv a).toArray 47)) = w1 at HH ⊢
  obtain ⟨hw1, BO, BA⟩ := HH.out
  have HB := Lib.hid (And.intro BO BA)
  have hz := hw1.size
  clear HH BO BA
  go_loopg [7, 8] 2 (fun q v i wr => ∃ (j : Nat) (p : Option Addr), q = 2 - j ∧ j ≤ 2 ∧ v = .pointer p ∧ i = .int .i64 j ∧ Below w1.heap.size w1 wr ∧ NoneAt wr p)
  case atStart => exact ⟨0, none, rfl, by omega, rfl, rfl, Below.refl _ _, .inl rfl⟩
  case round =>
    obtain ⟨j, p, hq, hj, rfl, rfl, hwr, hN⟩ := hrel
    have AA : Aside (gk = 2 - j) := hq
    clear hq
    by_cases hlt : j < 2
    · have hlt2 : (j : Int) < 2 := by omega
      have B0 := HB.out.1.keep hwr
      have HN := Lib.hid hN
      have HW := Lib.hid hwr
      have hzr := HW.out.size
      clear hN
      go_wp2_with ((with_reducible refine at_list ?_); first | refine wpList_load_blk rfl 37 _ rfl _ rfl _ _ _ (B0) Try.underlying37 rfl order_info ?_)
      refine (do_no o p wr HN.out).mono ?_
      rintro r w2 ⟨rfl, hb⟩
      have HW2 := Lib.hid (below_trans HW.out hb hzr)
      have HN2 := Lib.hid (HN.out.keep hb)
      have BX : Blk (w2.alloc (.cells #[.int .i64 0, .int .i64 0, .slice none 0 0] 32)) w2.heap.size 32 [.int .i64 0, .int .i64 0, .slice none 0 0] := Blk.new w2 _ _
      have HO2 := Lib.hid ((HB.out.2.keep hwr).keep hb)
      have hz2 := HW2.out.size
      clear hb HW HN B0 hzr
      go_wp2_with ((with_reducible refine at_list ?_); first | (refine wpList_store_own rfl 32 _ _ rfl _ (outv noOut (none, 0, 0)) rfl rfl _ _ (BX) outcome_info rfl (outv_one _ _) ?_; intro w3 S3 g3))
      have hb3 := below_new g3
      have HW3 := Lib.hid (below_trans HW2.out hb3 hz2)
      have HN3 := Lib.hid (HN2.out.keep hb3)
      have HO3 := Lib.hid (HO2.out.keep hb3)
      have hz3 := HW3.out.size
      clear g3 BX HW2 HN2 HO2 hz2 hb3
      refine (state_no s p w3 HN3.out).mono ?_
      rintro r w4 ⟨rfl, hb⟩
      have HW4 := Lib.hid (below_trans HW3.out hb hz3)
      have HN4 := Lib.hid (HN3.out.keep hb)
      have HO4 := Lib.hid (HO3.out.keep hb)
      have S4 := S3.keep hb
      have BY : Blk (w4.alloc (.cells #[.int .i64 0, .bool false, .int .i64 0, .int .i64 0] 40)) w4.heap.size 40 [.int .i64 0, .bool false, .int .i64 0, .int .i64 0] := Blk.new w4 _ _
      have hz4 := HW4.out.size
      have l4 := S4.lt
      clear hb HW3 HN3 HO3 S3 hz3
      go_wp2_with ((with_reducible refine at_list ?_); first | ((refine wpList_store_own rfl 40 _ _ rfl _ (stv ⟨0, false, 0, 0⟩) rfl rfl _ _ (BY) state_info rfl (stv_one _) ?_; intro w5 S5 g5); have S6 := S4.keep (below_new g5)) | refine wpList_load_blk rfl 32 _ rfl _ rfl _ _ _ (S6) Try.underlying32 rfl outcome_info ?_)
      have hb5 := below_new g5
      have HW5 := Lib.hid (below_trans HW4.out hb5 hz4)
      have HN5 := Lib.hid (HN4.out.keep hb5)
      have HO5 := Lib.hid (HO4.out.keep hb5)
      have hz5 := HW5.out.size
      clear g5 BY HW4 HN4 HO4 S4 hz4 hb5 S6 l4
      refine (same_out noOut (none, 0, 0) (none, 0, 0) w5 (.inl ⟨rfl, rfl⟩) (.inl ⟨rfl, rfl⟩)).mono ?_
      rintro r w6 ⟨rfl, hb⟩
      have HW6 := Lib.hid (below_trans HW5.out hb hz5)
      have HN6 := Lib.hid (HN5.out.keep hb)
      have B6 := HO5.out.keep hb
      have S6 := S5.keep hb
      have hz6 := HW6.out.size
      clear hb HW5 HN5 HO5 S5 hz5
      go_wp2_with ((with_reducible refine at_list ?_); first | refine wpList_load_blk_g 40 _ rfl rfl _ rfl _ _ _ (S6) Try.underlying40 rfl state_info ?_ | (refine wpList_agg_g rfl rfl Try.eqGuardType40 rfl rfl (neq_st _ ⟨0, false, 0, 0⟩) ?_))
      refine (orders_no s p w6 HN6.out).mono ?_
      rintro r w7 ⟨rfl, rfl⟩
      go_wp2_with ((with_reducible refine at_list ?_); first | refine wpList_load_blk_g 47 _ rfl rfl _ rfl _ _ _ (B6) Try.underlying47 rfl ans_info ?_)
      refine (allows_no s a p _ HN6.out).mono ?_
      rintro r w8 ⟨rfl, hb⟩
      have HW8 := Lib.hid (below_trans HW6.out hb hz6)
      have hz8 := HW8.out.size
      clear hb HW6 HN6 B6 S6 hz6
      go_wp2_with fail
      go_roundg (2 - (j + 1))
      case measure => have hkk := AA.out; omega
      case rel =>
        have ha := (Below.refl w8.heap.size w8).alloc (Nat.le_refl _) (.cells #[.bool false, .slice none 0 0, .slice none 0 0, .slice none 0 0, .slice none 0 0] 52)
        exact ⟨j + 1, _, rfl, by omega, rfl, by go_num, below_trans HW8.out ha hz8, .inr ⟨w8.heap.size, rfl, (Blk.new w8 52 [.bool false, .slice none 0 0, .slice none 0 0, .slice none 0 0, .slice none 0 0]).cell 0, by simp⟩⟩
    · obtain rfl : j = 2 := by omega
      have HW := Lib.hid (below_trans hw1 hwr hz)
      have hzr := HW.out.size
      clear hN hwr
      go_wp2_with fail
      refine (lives_any _).mono ?_
      rintro r w9 ⟨rfl, hb⟩
      have hB9 := below_trans HW.out hb hzr
      go_wp2_with fail
      go_ret
      exact ⟨rfl, hB9⟩
end Go.Proofs.Ytlineikeafepcaa
