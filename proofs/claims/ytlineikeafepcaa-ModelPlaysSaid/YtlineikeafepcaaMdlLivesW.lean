/-
  The walk over the chapter's purse: the calls.
-/
import Derived.Test.YtlineikeafepcaaMdlLives
set_option linter.unusedSimpArgs false
set_option linter.unusedVariables false
set_option maxRecDepth 100000
namespace Go.Proofs.Ytlineikeafepcaa
open Go Go.RowKit Go.Sq Go.Wd Go.Arch

set_option maxHeartbeats 4000000 in
theorem lives_any (w : World) : Calls Try.prog 14 #[] w fun e w' => e = .returned (.bool true) ∧ Below w.heap.size w w' := by
  go_enter Try.func14, Try.ntmps14
  go_wp2_with fail
  refine (new_any _).mono ?_
  rintro e w0 ⟨rfl, rfl⟩
  have HI : Hid (LvI w.heap.size w (w.alloc (.cells #[.bool true, .slice none 0 0, .slice none 0 0, .slice none 0 0, .slice none 0 0] 52)) w.heap.size noSl noLogs []) := Lib.hid ⟨(Below.refl _ _).alloc (Nat.le_refl _) _, Nat.le_refl _, by simp, mdl_new w, fun q hq => by cases hq⟩
  generalize (w.alloc (.cells #[.bool true, .slice none 0 0, .slice none 0 0, .slice none 0 0, .slice none 0 0] 52)) = w0 at HI ⊢
  go_wp2_with fail
  refine (do_val lv1 _ _ _ HI.out.2.2.2.1 fn0).mono ?_
  rintro e v0 ⟨s0, sl0, rfl, hM, _, hg⟩
  have HJ := Lib.hid (HI.out.step hg hM)
  have BN : Blk (v0.alloc (.cells #[.int .i64 0, .int .i64 0, .slice none 0 0] 32)) v0.heap.size 32 [.int .i64 0, .int .i64 0, .slice none 0 0] := Blk.new v0 _ _
  clear hM hg HI
  go_wp2_with ((with_reducible refine at_list ?_); first | (refine wpList_store_own rfl 32 _ _ rfl _ (outv (1, 1, [(1, 2)]) sl0) rfl rfl _ _ (BN) outcome_info rfl (outv_one _ _) ?_; intro x0 S0 g0))
  have HI := Lib.hid (HJ.out.add g0 S0)
  clear HJ BN S0 g0
  go_wp2_with fail
  refine (do_val lv2 _ _ _ HI.out.2.2.2.1 fn1).mono ?_
  rintro e v1 ⟨s1, sl1, rfl, hM, _, hg⟩
  have HJ := Lib.hid (HI.out.step hg hM)
  have BN : Blk (v1.alloc (.cells #[.int .i64 0, .int .i64 0, .slice none 0 0] 32)) v1.heap.size 32 [.int .i64 0, .int .i64 0, .slice none 0 0] := Blk.new v1 _ _
  clear hM hg HI
  go_wp2_with ((with_reducible refine at_list ?_); first | (refine wpList_store_own rfl 32 _ _ rfl _ (outv (3, 1, []) sl1) rfl rfl _ _ (BN) outcome_info rfl (outv_one _ _) ?_; intro x1 S1 g1))
  have HI := Lib.hid (HJ.out.add g1 S1)
  clear HJ BN S1 g1
  go_wp2_with fail
  refine (do_val lv3 _ _ _ HI.out.2.2.2.1 fn2).mono ?_
  rintro e v2 ⟨s2, sl2, rfl, hM, _, hg⟩
  have HJ := Lib.hid (HI.out.step hg hM)
  have BN : Blk (v2.alloc (.cells #[.int .i64 0, .int .i64 0, .slice none 0 0] 32)) v2.heap.size 32 [.int .i64 0, .int .i64 0, .slice none 0 0] := Blk.new v2 _ _
  clear hM hg HI
  go_wp2_with ((with_reducible refine at_list ?_); first | (refine wpList_store_own rfl 32 _ _ rfl _ (outv (1, 2, [(2, 7)]) sl2) rfl rfl _ _ (BN) outcome_info rfl (outv_one _ _) ?_; intro x2 S2 g2))
  have HI := Lib.hid (HJ.out.add g2 S2)
  clear HJ BN S2 g2
  go_wp2_with fail
  refine (do_val lv4 _ _ _ HI.out.2.2.2.1 fn3).mono ?_
  rintro e v3 ⟨s3, sl3, rfl, hM, _, hg⟩
  have HJ := Lib.hid (HI.out.step hg hM)
  have BN : Blk (v3.alloc (.cells #[.int .i64 0, .int .i64 0, .slice none 0 0] 32)) v3.heap.size 32 [.int .i64 0, .int .i64 0, .slice none 0 0] := Blk.new v3 _ _
  clear hM hg HI
  go_wp2_with ((with_reducible refine at_list ?_); first | (refine wpList_store_own rfl 32 _ _ rfl _ (outv (2, 2, []) sl3) rfl rfl _ _ (BN) outcome_info rfl (outv_one _ _) ?_; intro x3 S3 g3))
  have HI := Lib.hid (HJ.out.add g3 S3)
  clear HJ BN S3 g3
  go_wp2_with fail
  refine (do_val lv5 _ _ _ HI.out.2.2.2.1 fn4).mono ?_
  rintro e v4 ⟨s4, sl4, rfl, hM, _, hg⟩
  have HJ := Lib.hid (HI.out.step hg hM)
  have BN : Blk (v4.alloc (.cells #[.int .i64 0, .int .i64 0, .slice none 0 0] 32)) v4.heap.size 32 [.int .i64 0, .int .i64 0, .slice none 0 0] := Blk.new v4 _ _
  clear hM hg HI
  go_wp2_with ((with_reducible refine at_list ?_); first | (refine wpList_store_own rfl 32 _ _ rfl _ (outv (3, 1, []) sl4) rfl rfl _ _ (BN) outcome_info rfl (outv_one _ _) ?_; intro x4 S4 g4))
  have HI := Lib.hid (HJ.out.add g4 S4)
  clear HJ BN S4 g4
  refine (state_val lv6 _ _ _ HI.out.2.2.2.1 fn5).mono ?_
  rintro e v5 ⟨rfl, hb⟩
  have HJ := Lib.hid (HI.out.keep hb)
  have BN : Blk (v5.alloc (.cells #[.int .i64 0, .bool false, .int .i64 0, .int .i64 0] 40)) v5.heap.size 40 [.int .i64 0, .bool false, .int .i64 0, .int .i64 0] := Blk.new v5 _ _
  clear hb HI
  go_wp2_with ((with_reducible refine at_list ?_); first | ((refine wpList_store_own rfl 40 _ _ rfl _ (stv ⟨2, false, 7, 2⟩) rfl rfl _ _ (BN) state_info rfl (stv_one _) ?_; intro x5 S5 g5); have HI := Lib.hid (HJ.out.add g5 S5); clear HJ BN g5; have c00 := (HI.out.blk 5 rfl).cell 0; have c01 := (HI.out.blk 5 rfl).cell 1; have c10 := (HI.out.blk 4 rfl).cell 0; have c11 := (HI.out.blk 4 rfl).cell 1; have c20 := (HI.out.blk 3 rfl).cell 0; have c21 := (HI.out.blk 3 rfl).cell 1; have c30 := (HI.out.blk 2 rfl).cell 0; have c31 := (HI.out.blk 2 rfl).cell 1; have c40 := (HI.out.blk 1 rfl).cell 0; have c41 := (HI.out.blk 1 rfl).cell 1; simp only [outv, List.getElem?_cons_succ, List.getElem?_cons_zero] at c00 c01 c10 c11 c20 c21 c30 c31 c40 c41) | refine wpList_load_blk_g 40 _ rfl rfl _ rfl _ _ _ (S5) Try.underlying40 rfl state_info ?_ | (refine wpList_agg_g rfl rfl Try.eqGuardType40 rfl rfl (eql_st _ ⟨2, false, 7, 2⟩) ?_))
  clear c00 c01 c10 c11 c20 c21 c30 c31 c40 c41 S5
  refine (allows_val lv7 _ _ _ HI.out.2.2.2.1 fn5).mono ?_
  rintro e y0 ⟨rfl, hb⟩
  have HJ := Lib.hid (HI.out.keep hb)
  clear hb HI
  have HI := HJ
  clear HJ
  go_wp2_with fail
  refine (allows_val lv8 _ _ _ HI.out.2.2.2.1 fn5).mono ?_
  rintro e y1 ⟨rfl, hb⟩
  have HJ := Lib.hid (HI.out.keep hb)
  clear hb HI
  have HI := HJ
  clear HJ
  go_wp2_with fail
  refine (allows_val lv9 _ _ _ HI.out.2.2.2.1 fn5).mono ?_
  rintro e y2 ⟨rfl, hb⟩
  have HJ := Lib.hid (HI.out.keep hb)
  clear hb HI
  have HI := HJ
  clear HJ
  go_wp2_with fail
  go_ret
  exact ⟨rfl, HI.out.1⟩
end Go.Proofs.Ytlineikeafepcaa
