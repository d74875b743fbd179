/-
  The walk over the statement 'ViewsNone'.
-/
import Derived.Test.YtelkibmiinjokaaVLives
import Derived.Test.YtelkibmiinjokaaItemRow
set_option linter.unusedSimpArgs false
set_option linter.unusedVariables false
set_option maxRecDepth 100000
namespace Go.Proofs.Ytelkibmiinjokaa
open Go Go.RowKit Go.Sq Go.Wd Go.Arch

/-- A view that was never made. -/
def unv : List Value := .bool false :: (totv tot0 ++ [.int .i64 0])
theorem atT_one (T : Tot) (code : Int) (h : code < 1 ∨ 3 < code) : vstepT T ⟨0, 0, 0, 0, 0, 0, 0, code, 0, (none, 0, 0), []⟩ = none := by
  unfold vstepT
  rw [if_neg (by show ¬ ((0 : Int) < 0 ∨ (4 : Int) ≤ 0); omega)]
  unfold stepN Tot.code
  rw [if_neg (by show ¬ code = 1; omega), if_neg (by show ¬ code = 2; omega), if_neg (by show ¬ code = 3; omega)]
theorem takeT_all {l : List Itm} (T : Tot) (h : atT l = some T) : takeT tot0 0 l = (T, l.length, 0) := by
  unfold takeT
  rw [List.drop_zero, show atFrom tot0 l = some T from h]
theorem takeT_no {l : List Itm} (h : atT l = none) : takeT tot0 0 l = (tot0, 0, 2) := by
  unfold takeT
  rw [List.drop_zero, show atFrom tot0 l = none from h]
theorem takeT_bad (l : List Itm) (T : Tot) (code : Int) (h : code < 1 ∨ 3 < code) : takeT T l.length (l ++ [⟨0, 0, 0, 0, 0, 0, 0, code, 0, (none, 0, 0), []⟩]) = (T, l.length, 2) := by
  have e : atFrom T [⟨0, 0, 0, 0, 0, 0, 0, code, 0, (none, 0, 0), []⟩] = none := atT_one T code h
  unfold takeT
  rw [List.drop_left, e]

set_option maxHeartbeats 8000000 in
theorem viewsNone_walk (l : List Itm) (A : Option Addr) (c : Nat) (code : Int) (w : World) (hi : Items w w.heap.size A l) (hc : l.length ≤ c) (hc2 : c ≤ 9223372036854775807) :
    Calls Try.prog 12 #[.slice A l.length c, .int .i64 code] w fun e w' => e = .returned (.bool true) ∧ Below w.heap.size w w' := by
  have hw := Below.refl w.heap.size w
  have HE := Lib.hid hi
  clear hi
  go_enter Try.func12, Try.ntmps12
  go_wp2_with fail
  refine (beyond_any l A c _ HE.out hc hc2).mono ?_
  rintro e w1 ⟨b, rfl, hw1, hl⟩
  cases b with
  | true =>
    go_wp2_with fail
    refine (lives_any _).mono ?_
    rintro e wz ⟨rfl, hb⟩
    go_wp2_with fail
    go_ret
    exact ⟨rfl, below_trans hw1 hb hw1.size⟩
  | false =>
    have h200 := hl rfl
    have hz1 := hw1.size
    clear hl
    go_wp2_with fail
    refine wp_loop_rounds 3 ?_
    rw [rounds_succ]
    go_wp2_with fail
    refine (totals_nil _).mono ?_
    rintro e w2 ⟨rfl, hb⟩
    have hw2 := below_trans hw1 hb hz1
    have hz2 := hw2.size
    clear hb
    go_wp2_with ((with_reducible refine at_list ?_); (refine wpList_store_blk rfl 51 _ _ rfl _ (totv _) rfl rfl _ _ (Blk.new _ _ _) tot_info rfl (totv_one _) ?_; intro w3 B3 hb3 hk3))
    have hw3 := (hw2.alloc hz2 _).trans (hb3 _ hz2)
    have hz3 := hw3.size
    clear hb3 hk3
    refine (take_nil _ _ _ _).mono ?_
    rintro e w4 ⟨rfl, hb⟩
    have hw4 := below_trans hw3 hb hz3
    have B4 := B3.keep hb
    have hz4 := hw4.size
    clear hb
    go_wp2_with ((with_reducible refine at_list ?_); first | refine wpList_load_blk_g 51 _ rfl rfl _ rfl _ _ _ (B4) Try.underlying51 rfl tot_info ?_ | refine wpList_agg_g rfl rfl Try.eqGuardType51 rfl rfl (neq_tot _ tot0) ?_)
    have hb5 : Below w4.heap.size w4 (w4.alloc (.cells unv.toArray 62)) := (Below.refl _ _).alloc (Nat.le_refl _) _
    have B5 : Blk (w4.alloc (.cells unv.toArray 62)) w4.heap.size 62 unv := Blk.new _ _ _
    have hw5 := below_trans hw4 hb5 hz4
    clear hb5 hw4 B4
    simp only [unv, totv, tot0, st0, List.cons_append, List.nil_append] at hw5 B5
    generalize w4.alloc (.cells #[.bool false, .int .i64 0, .bool false, .int .i64 0, .int .i64 0, .int .i64 0, .bool false, .int .i64 0, .int .i64 0, .int .i64 0, .bool false, .int .i64 0, .int .i64 0, .int .i64 0, .bool false, .int .i64 0, .int .i64 0, .int .i64 0, .int .i64 0, .int .i64 0, .int .i64 0, .int .i64 0] 62) = w5 at hw5 B5 ⊢
    generalize w4.heap.size = g5 at B5 ⊢
    have hz5 := hw5.size
    rw [rounds_succ]
    go_wp2_with fail
    refine (totals_unmade _ _ _ B5).mono ?_
    rintro e w6 ⟨rfl, hb⟩
    have hw6 := below_trans hw5 hb hz5
    have B6 := B5.keep hb
    have hz6 := hw6.size
    clear hb hw5 B5
    go_wp2_with ((with_reducible refine at_list ?_); (refine wpList_store_blk rfl 51 _ _ rfl _ (totv _) rfl rfl _ _ (Blk.new _ _ _) tot_info rfl (totv_one _) ?_; intro w7 B7 hb7 hk7))
    have hw7 := (hw6.alloc hz6 _).trans (hb7 _ hz6)
    have U7 := blk_step B6 hk7
    have hz7 := hw7.size
    clear hb7 hk7 B6 hw6
    refine (take_unmade _ _ _ _ _ _ U7).mono ?_
    rintro e w8 ⟨rfl, hb⟩
    have hw8 := below_trans hw7 hb hz7
    have B8 := B7.keep hb
    have hz8 := hw8.size
    clear hb U7 B7
    go_wp2_with ((with_reducible refine at_list ?_); first | refine wpList_load_blk_g 51 _ rfl rfl _ rfl _ _ _ (B8) Try.underlying51 rfl tot_info ?_ | refine wpList_agg_g rfl rfl Try.eqGuardType51 rfl rfl (neq_tot _ tot0) ?_)
    have hw9 : Below w.heap.size w (w8.alloc (.cells unv.toArray 62)) := hw8.alloc hz8 _
    clear hw8 B8
    simp only [unv, totv, tot0, st0, List.cons_append, List.nil_append] at hw9
    generalize w8.alloc (.cells #[.bool false, .int .i64 0, .bool false, .int .i64 0, .int .i64 0, .int .i64 0, .bool false, .int .i64 0, .int .i64 0, .int .i64 0, .bool false, .int .i64 0, .int .i64 0, .int .i64 0, .bool false, .int .i64 0, .int .i64 0, .int .i64 0, .int .i64 0, .int .i64 0, .int .i64 0, .int .i64 0] 62) = w9 at hw9 ⊢
    have hz9 := hw9.size
    by_cases hcd : 1 ≤ code ∧ code ≤ 3
    · obtain ⟨h1, h3⟩ := hcd
      rw [rounds_succ]
      go_wp2_with fail
      refine (lives_any _).mono ?_
      rintro e wz ⟨rfl, hb⟩
      have hBz := below_trans hw9 hb hz9
      clear hb
      go_wp2_with fail
      go_ret
      exact ⟨rfl, hBz⟩
    · have hbad : code < 1 ∨ 3 < code := by omega
      have HBAD := Lib.hid hbad
      by_cases h1 : 1 ≤ code
      case' pos => have h3 : ¬ code ≤ 3 := by omega
      all_goals
        rw [rounds_succ]
        go_wp2_with fail
      all_goals
        refine (new_view _).mono ?_
        rintro e w10 ⟨rfl, hw10e⟩
        have hb10 : Below w9.heap.size w9 w10 := by rw [hw10e]; exact (Below.refl _ _).alloc (Nat.le_refl _) _
        have BV : Blk w10 w9.heap.size 62 (vwv tot0 0) := by rw [hw10e]; exact Blk.new _ _ _
        have hw10 := below_trans hw9 hb10 hz9
        have hz10 := hw10.size
        clear hb10 hw10e hw9
        go_wp2_with fail
        refine (take_any l tot0 0 _ A c _ ((HE.out.below hw10).more hz10) (Nat.zero_le _) hc hc2 BV).mono ?_
        cases hT : atT l with
        | none =>
          rw [takeT_no hT]
          rintro e w11 ⟨rfl, BV11, hO⟩
          have hw11 := hw10.trans (hO.1 _ hz9)
          have hz11 := hw11.size
          clear hO BV BV11 hw10 hT
          dsimp only
          go_wp2_with fail
          refine (lives_any _).mono ?_
          rintro e wz ⟨rfl, hb⟩
          have hBz := below_trans hw11 hb hz11
          clear hb
          go_wp2_with fail
          go_ret
          exact ⟨rfl, hBz⟩
        | some T =>
          rw [takeT_all T hT]
          rintro e w11 ⟨rfl, BV11, hO⟩
          have hw11 := hw10.trans (hO.1 _ hz9)
          have hz11 := hw11.size
          clear hO BV hw10 hT
          dsimp only at BV11 ⊢
          go_wp2_with fail
          refine (totals_any T _ _ _ BV11).mono ?_
          rintro e w12 ⟨rfl, hb⟩
          have hw12 := below_trans hw11 hb hz11
          have BV12 := BV11.keep hb
          have hz12 := hw12.size
          have hg12 := BV12.lt
          clear hb BV11 hw11
          go_wp2_with ((with_reducible refine at_list ?_); first | (refine wpList_store_blk rfl 51 _ _ rfl _ (totv _) rfl rfl _ _ (Blk.new _ _ _) tot_info rfl (totv_one _) ?_; intro w13 B13 hb13 hk13) | (with_reducible refine cut_at 62 rfl ?_))
          refine Cut.go ?_
          have hw13 := (hw12.alloc hz12 _).trans (hb13 _ hz12)
          have BV13 := blk_step BV12 hk13
          have hz13 := hw13.size
          clear hb13 hk13 BV12 hw12
          have hI13 := (HE.out.below hw13).more hz13
          obtain ⟨v1, w14, hrun1, hR1, hgr1⟩ := IRow.app (IRow.nil w13 w13.heap.size) A c hI13 (by simp; omega) (Nat.le_refl _)
          rw [List.nil_append] at hR1
          have hb14 : Below w13.heap.size w13 w14 := below_own (Below.refl _ _) hgr1 (IRow.nil w13 w13.heap.size) (Nat.le_refl _)
          have hb15 : Below w13.heap.size w13 (w14.alloc (.cells (itv ⟨0, 0, 0, 0, 0, 0, 0, code, 0, (none, 0, 0), []⟩).toArray 69)) := hb14.alloc hb14.size _
          have hR2 : IRow (w14.alloc (.cells (itv ⟨0, 0, 0, 0, 0, 0, 0, code, 0, (none, 0, 0), []⟩).toArray 69)) w13.heap.size v1 l := hR1.keep ((Below.refl _ _).alloc (Nat.le_refl _) _)
          have BI := Blk.new w14 69 (itv ⟨0, 0, 0, 0, 0, 0, 0, code, 0, (none, 0, 0), []⟩)
          have hI1 : Items (w14.alloc (.cells (itv ⟨0, 0, 0, 0, 0, 0, 0, code, 0, (none, 0, 0), []⟩).toArray 69)) (w14.alloc (.cells (itv ⟨0, 0, 0, 0, 0, 0, 0, code, 0, (none, 0, 0), []⟩).toArray 69)).heap.size (some ⟨w14.heap.size, 0, none⟩) [⟨0, 0, 0, 0, 0, 0, 0, code, 0, (none, 0, 0), []⟩] := by
            refine ⟨fun x hx => ?_, fun _ => ⟨_, 0, rfl, BI.lt, fun i x hx => ?_⟩⟩
            · obtain rfl := List.mem_singleton.1 hx
              exact ⟨rfl, by simp, by simp, fun h => absurd h (by simp)⟩
            · have hi := (List.getElem?_eq_some_iff.1 hx).1
              obtain rfl : i = 0 := by simp at hi; omega
              cases hx
              exact ⟨BI.cell _, BI.cell _, BI.cell _, BI.cell _, BI.cell _, BI.cell _, BI.cell _, BI.cell _, BI.cell _, BI.cell _⟩
          obtain ⟨v2, w16, hrun2, hR3, hgr2⟩ := IRow.app hR2 _ 1 hI1 (by simp; omega) hb15.size
          have hb16 : Below w13.heap.size w13 w16 := below_own hb15 hgr2 hR2 hb15.size
          have hw16 := below_trans hw13 hb16 hz13
          have hz16 := hw16.size
          obtain ⟨A2, c2, rfl, hl2, hc22, hI2⟩ := hR3.items (fun x hx => by
            rcases List.mem_append.1 hx with h | h
            · exact ((hI13.1 x h).below hb16).more hb16.size
            · obtain rfl := List.mem_singleton.1 h
              exact ⟨rfl, by simp, by simp, fun h => absurd h (by simp)⟩)
          have BV16 := BV13.keep hb16
          have B16 := B13.keep hb16
          have HH := Lib.hid (And.intro hI2 (And.intro BV16 (And.intro B16 hw16)))
          have HN := Lib.hid (And.intro hl2 hc22)
          simp only [itv] at hrun2
          clear hI2 BV16 B16 hw16 hb16 hR3 hgr2 hI1 BI hR2 hb15 hb14 hR1 hgr1 hI13 BV13 B13 hw13 hl2 hc22
          go_wp2_with (at_builtin; first | refine wpList_app rfl (by rfl) (by rfl) (by rfl) hrun1 ?_ | refine wpList_app rfl (by rfl) (by rfl) (by rfl) hrun2 ?_)
          have hTk := take_any (l ++ [⟨0, 0, 0, 0, 0, 0, 0, code, 0, (none, 0, 0), []⟩]) T l.length _ A2 c2 w16 HH.out.1 (by simp) HN.out.1 HN.out.2 HH.out.2.1
          rw [takeT_bad _ _ _ HBAD.out, List.length_append] at hTk
          refine hTk.mono ?_
          clear hTk
          rintro e w17 ⟨rfl, BV17, hO⟩
          have hw17 := HH.out.2.2.2.trans (hO.1 _ hz9)
          have B17 := hO.2.1 _ _ _ (by omega) HH.out.2.2.1
          have hz17 := hw17.size
          clear hO HH HN
          dsimp only at BV17 ⊢
          go_wp2_with fail
          refine (totals_any T _ _ _ BV17).mono ?_
          rintro e w18 ⟨rfl, hb⟩
          have hw18 := below_trans hw17 hb hz17
          have B18 := B17.keep hb
          have hz18 := hw18.size
          clear hb BV17 hw17 B17
          go_wp2_with ((with_reducible refine at_list ?_); first | ((refine wpList_store_blk rfl 51 _ _ rfl _ (totv _) rfl rfl _ _ (Blk.new _ _ _) tot_info rfl (totv_one _) ?_; intro w19 B19 hb19 hk19); have C19 := blk_step B18 hk19; have hw19 := (hw18.alloc hz18 _).trans (hb19 _ hz18); clear hb19 hk19 B18) | refine wpList_load_blk_g 51 _ rfl rfl _ rfl _ _ _ (C19) Try.underlying51 rfl tot_info ?_ | refine wpList_load_blk_g 51 _ rfl rfl _ rfl _ _ _ (B19) Try.underlying51 rfl tot_info ?_ | refine wpList_agg_g rfl rfl Try.eqGuardType51 rfl rfl (eql_tot _ T) ?_)
          refine (lives_any _).mono ?_
          rintro e wz ⟨rfl, hb⟩
          have hBz := below_trans hw19 hb hw19.size
          clear hb
          go_wp2_with fail
          go_ret
          exact ⟨rfl, hBz⟩
end Go.Proofs.Ytelkibmiinjokaa
