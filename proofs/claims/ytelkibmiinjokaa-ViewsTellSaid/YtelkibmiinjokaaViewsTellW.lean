/-
  The walk over the statement 'ViewsTell'.
-/
import Derived.Test.YtelkibmiinjokaaVLives
import Derived.Test.YtelkibmiinjokaaVRef
set_option linter.unusedSimpArgs false
set_option linter.unusedVariables false
set_option maxRecDepth 100000
namespace Go.Proofs.Ytelkibmiinjokaa
open Go Go.RowKit Go.Sq Go.Wd Go.Arch

theorem atFrom_append (t : Tot) (a b : List Itm) : atFrom t (a ++ b) = (atFrom t a).bind fun u => atFrom u b := by
  unfold atFrom
  rw [List.foldl_append]
  cases h : List.foldl (fun o x => o.bind fun t => vstepT t x) (some t) a with
  | none => exact atFrom_none b
  | some u => rfl
theorem atK_some {l : List Itm} {k : Int} {T : Tot} (h : atK l k = some T) : ∃ n : Nat, k = n ∧ n ≤ l.length ∧ atT (l.take n) = some T := by
  unfold atK at h
  split at h
  · cases h
  · exact ⟨k.toNat, by omega, by omega, h⟩
theorem atT_part {l : List Itm} {n m : Nat} {T : Tot} (hm : m ≤ n) (h : atT (l.take n) = some T) : ∃ U, atT (l.take m) = some U ∧ atFrom U ((l.take n).drop m) = some T := by
  have e : l.take n = l.take m ++ (l.take n).drop m := by
    have h1 : l.take m = (l.take n).take m := by rw [List.take_take, Nat.min_eq_left hm]
    rw [h1, List.take_append_drop]
  have h2 : atT (l.take n) = (atT (l.take m)).bind fun u => atFrom u ((l.take n).drop m) := by
    conv => lhs; rw [e]
    exact atFrom_append _ _ _
  rw [h2] at h
  cases hU : atT (l.take m) with
  | none => rw [hU] at h; cases h
  | some U => rw [hU] at h; exact ⟨U, rfl, h⟩
theorem take_pre (l : List Itm) (t t' : Tot) (v n g : Nat) (A : Option Addr) (c : Nat) (w : World) (hi : Items w w.heap.size A l) (hn : n ≤ l.length) (hv : v ≤ n) (hc : l.length ≤ c) (hc2 : c ≤ 9223372036854775807) (h : atFrom t ((l.take n).drop v) = some t') (hg : Blk w g 62 (vwv t v)) :
    Calls Try.prog 34 #[.pointer (some ⟨g, 0, none⟩), .slice A n c] w fun e w' => e = .returned (.int .i64 0) ∧ Blk w' g 62 (vwv t' n) ∧ OnlyAt g w w' := by
  have hl : (l.take n).length = n := by rw [List.length_take]; omega
  have h1 := take_any (l.take n) t v g A c w (hi.take n) (by omega) (by omega) hc2 hg
  have h2 : takeT t v (l.take n) = (t', n, 0) := by unfold takeT; rw [h, hl]
  rw [h2, hl] at h1
  exact h1

set_option maxHeartbeats 8000000 in
theorem viewsTell_walk (l : List Itm) (A : Option Addr) (c : Nat) (k cut : Int) (w : World) (hi : Items w w.heap.size A l) (hc : l.length ≤ c) (hc2 : c ≤ 9223372036854775807) (hu0 : 0 ≤ cut) (hu1 : cut ≤ 255) :
    Calls Try.prog 11 #[.slice A l.length c, .int .i64 k, .int .u8 cut] w fun e w' => e = .returned (.bool true) ∧ Below w.heap.size w w' := by
  have hw := Below.refl w.heap.size w
  have HE := Lib.hid hi
  clear hi
  go_enter Try.func11, Try.ntmps11
  go_wp2_with fail
  refine (beyond_any l A c _ HE.out hc hc2).mono ?_
  rintro e w1 ⟨b, rfl, hw1, hl⟩
  cases b with
  | true =>
    go_wp2_with fail
    refine (lives_any _).mono ?_
    rintro e wz ⟨rfl, hb⟩
    go_wp2_with fail
    go_ret
    exact ⟨rfl, below_trans hw1 hb hw1.size⟩
  | false =>
    have h200 := hl rfl
    have hz1 := hw1.size
    clear hl
    go_wp2_with fail
    refine (at_any l _ c k _ ((HE.out.below hw1).more hz1) hc hc2).mono ?_
    have hR := fun w hi => rat_any l A c k w hi hc hc2
    have HO : Hid (∀ n T, atK l k = some T → k = (n : Int) → n ≤ l.length → True) := Lib.hid (fun _ _ _ _ _ => trivial)
    have HS : Hid (∀ T, atK l k = some T → ∃ n : Nat, k = n ∧ n ≤ l.length ∧ atT (l.take n) = some T) := Lib.hid (fun T h => atK_some h)
    generalize hK : atK l k = o at hR HS ⊢
    clear hK HO
    rintro e w2 ⟨rfl, hb⟩
    have hw2 := below_trans hw1 hb hz1
    have hz2 := hw2.size
    clear hb
    have HR := Lib.hid hR
    clear hR
    go_wp2_with ((with_reducible refine at_list ?_); (refine wpList_store_blk rfl 51 _ _ rfl _ (totv _) rfl rfl _ _ (Blk.new _ _ _) tot_info rfl (totv_one _) ?_; intro w3 B3 hb3 hk3))
    have hw3 := (hw2.alloc hz2 _).trans (hb3 _ hz2)
    clear hb3 hk3
    have hz3 := hw3.size
    refine (HR.out _ ((HE.out.below hw3).more hz3)).mono ?_
    rintro e w4 ⟨rfl, hb⟩
    have hw4 := below_trans hw3 hb hz3
    have B4 := B3.keep hb
    have hz4 := hw4.size
    clear hb HR
    cases o with
    | none =>
      simp only [totR]
      go_wp2_with ((with_reducible refine at_list ?_); first | ((refine wpList_store_blk rfl 51 _ _ rfl _ (totv _) rfl rfl _ _ (Blk.new _ _ _) tot_info rfl (totv_one _) ?_; intro w5 B5 hb5 hk5); have B45 := blk_step B4 hk5; have hw5 := (hw4.alloc hz4 _).trans (hb5 _ hz4); clear hb5 hk5 B4) | refine wpList_load_blk_g 51 _ rfl rfl _ rfl _ _ _ (B45) Try.underlying51 rfl tot_info ?_ | refine wpList_load_blk_g 51 _ rfl rfl _ rfl _ _ _ (B5) Try.underlying51 rfl tot_info ?_ | refine wpList_agg_g rfl rfl Try.eqGuardType51 rfl rfl (neq_tot _ tot0) ?_)
      refine (lives_any _).mono ?_
      rintro e wz ⟨rfl, hb⟩
      have hBz := below_trans hw5 hb hw5.size
      clear hb
      go_wp2_with fail
      go_ret
      exact ⟨rfl, hBz⟩
    | some T =>
      obtain ⟨n, rfl, hn, hT⟩ := HS.out T rfl
      have hmm : ∃ m : Nat, m ≤ n ∧ cut.tmod ((n : Int) + 1) = m := by
        have h1 : cut.tmod ((n : Int) + 1) = cut % ((n : Int) + 1) := Int.tmod_eq_emod_of_nonneg hu0
        have h2 := Int.emod_nonneg cut (show (n : Int) + 1 ≠ 0 by omega)
        have h3 := Int.emod_lt_of_pos cut (show (0 : Int) < (n : Int) + 1 by omega)
        exact ⟨(cut % ((n : Int) + 1)).toNat, by omega, by rw [h1]; omega⟩
      obtain ⟨m, hmn, htm⟩ := hmm
      obtain ⟨U, hU, hUT⟩ := atT_part hmn hT
      have HU := Lib.hid (And.intro hU hUT)
      have wl : IntKind.i64.wrap ((n : Int) + 1) = (n : Int) + 1 := IntWalk.i64_in _ (by omega)
      have wc : IntKind.i64.wrap cut = cut := IntWalk.i64_in _ (by omega)
      have n0 : ¬ (n : Int) + 1 = 0 := by omega
      have hnc : n ≤ c := by omega
      have hmc : m ≤ c := by omega
      clear hT HS hU hUT
      simp only [totR]
      go_wp2_with ((with_reducible refine at_list ?_); first | ((refine wpList_store_blk rfl 51 _ _ rfl _ (totv _) rfl rfl _ _ (Blk.new _ _ _) tot_info rfl (totv_one _) ?_; intro w5 B5 hb5 hk5); have B45 := blk_step B4 hk5; have hw5 := (hw4.alloc hz4 _).trans (hb5 _ hz4); clear hb5 hk5 B4) | refine wpList_load_blk_g 51 _ rfl rfl _ rfl _ _ _ (B45) Try.underlying51 rfl tot_info ?_ | refine wpList_load_blk_g 51 _ rfl rfl _ rfl _ _ _ (B5) Try.underlying51 rfl tot_info ?_ | refine wpList_agg_g rfl rfl Try.eqGuardType51 rfl rfl (neq_tot _ T) ?_)
      have hz5 := hw5.size
      refine (new_view _).mono ?_
      rintro e w7 ⟨rfl, hw7e⟩
      have hb7 : Below w5.heap.size w5 w7 := by rw [hw7e]; exact (Below.refl _ _).alloc (Nat.le_refl _) _
      have BV : Blk w7 w5.heap.size 62 (vwv tot0 0) := by rw [hw7e]; exact Blk.new _ _ _
      have hw7 := below_trans hw5 hb7 hz5
      have B7 := B5.keep hb7
      have hz7 := hw7.size
      have hg4 := B5.lt
      clear hb7 hw7e hw5 B5 B45
      go_wp2_with fail
      refine wp_region_p ([(0, true), (1, true), (2, true), (3, true), (5, true), (6, true), (7, true), (8, true), (4, false), (9, false), (10, true), (11, true)]) (fun w' => Below w.heap.size w w') (by kernel_rfl) rfl (by kernel_rfl) (by kernel_rfl) (hw7.drew) rfl ?_
      intro KP RP TP hKP hTP hTP'
      simp only [pick, nth]
      go_wp2_with (first
        | (apply SeqP.skip; rfl; simp only [Act.put, List.setIfInBounds_toArray, List.set_cons_zero, List.set_cons_succ])
        | (apply SeqP.call; rfl; rfl; (intro w2 hw; have hw := hTP _ hw; (skip); go_simp; exact ⟨rfl, rfl⟩); (intro w2 hw; have hw := hTP _ hw; (skip); (first | fail)); simp only [Act.put, List.setIfInBounds_toArray, List.set_cons_zero, List.set_cons_succ])
        | (apply SeqP.pure; rfl; (intro w2 hw; have hw := hTP _ hw; (skip); go_simp; with_reducible rfl); simp only [Act.put, List.setIfInBounds_toArray, List.set_cons_zero, List.set_cons_succ])
        | (apply SeqP.split; rfl; rfl; all_goals (intro hc; simp only [hc]; try simp only [beq_iff_eq, decide_eq_true_eq, beq_eq_false_iff_ne, decide_eq_false_iff_not, bne_iff_ne, ne_eq, Bool.not_eq_true', Bool.not_eq_false', Int.not_le, Int.not_lt, bne_eq_false_iff_eq, Bool.or_eq_true, Bool.and_eq_true, Bool.or_eq_false_iff] at hc)))
      apply SeqP.eff
      · rfl
      intro KE hKE
      go_wp2_with fail
      refine (take_pre l tot0 U 0 m _ A c _ ((HE.out.below hw7.drew).more hz7) (by omega) (Nat.zero_le _) hc hc2 HU.out.1 BV.drew).mono ?_
      rintro e w8 ⟨rfl, BV8, hO⟩
      have hw8 := hw7.drew.trans (hO.1 _ hz5)
      have B8 := hO.2.1 _ _ _ (by omega) B7.drew
      have hz8 := hw8.size
      refine hKE _ _ (hTP' _ hw8) ?_
      clear hKE KE hO BV B7
      go_wp2_with (first
        | (apply SeqP.skip; rfl; simp only [Act.put, List.setIfInBounds_toArray, List.set_cons_zero, List.set_cons_succ])
        | (apply SeqP.call; rfl; rfl; (intro w2 hw; have hw := hTP _ hw; (skip); go_simp; exact ⟨rfl, rfl⟩); (intro w2 hw; have hw := hTP _ hw; (skip); (first | fail)); simp only [Act.put, List.setIfInBounds_toArray, List.set_cons_zero, List.set_cons_succ])
        | (apply SeqP.pure; rfl; (intro w2 hw; have hw := hTP _ hw; (skip); go_simp; with_reducible rfl); simp only [Act.put, List.setIfInBounds_toArray, List.set_cons_zero, List.set_cons_succ])
        | (apply SeqP.split; rfl; rfl; all_goals (intro hc; simp only [hc]; try simp only [beq_iff_eq, decide_eq_true_eq, beq_eq_false_iff_ne, decide_eq_false_iff_not, bne_iff_ne, ne_eq, Bool.not_eq_true', Bool.not_eq_false', Int.not_le, Int.not_lt, bne_eq_false_iff_eq, Bool.or_eq_true, Bool.and_eq_true, Bool.or_eq_false_iff] at hc)))
      apply SeqP.eff
      · rfl
      intro KE hKE
      go_wp2_with fail
      refine (take_pre l U T m n _ A c _ ((HE.out.below hw8).more hz8) (by omega) hmn hc hc2 HU.out.2 BV8).mono ?_
      rintro e w9 ⟨rfl, BV9, hO⟩
      have hw9 := hw8.trans (hO.1 _ hz5)
      have B9 := hO.2.1 _ _ _ (by omega) B8
      have hz9 := hw9.size
      refine hKE _ _ (hTP' _ hw9) ?_
      clear hKE KE hO BV8 B8
      go_wp2_with (first
        | (apply SeqP.skip; rfl; simp only [Act.put, List.setIfInBounds_toArray, List.set_cons_zero, List.set_cons_succ])
        | (apply SeqP.call; rfl; rfl; (intro w2 hw; have hw := hTP _ hw; (skip); go_simp; exact ⟨rfl, rfl⟩); (intro w2 hw; have hw := hTP _ hw; (skip); (first | fail)); simp only [Act.put, List.setIfInBounds_toArray, List.set_cons_zero, List.set_cons_succ])
        | (apply SeqP.pure; rfl; (intro w2 hw; have hw := hTP _ hw; (skip); go_simp; with_reducible rfl); simp only [Act.put, List.setIfInBounds_toArray, List.set_cons_zero, List.set_cons_succ])
        | (apply SeqP.split; rfl; rfl; all_goals (intro hc; simp only [hc]; try simp only [beq_iff_eq, decide_eq_true_eq, beq_eq_false_iff_ne, decide_eq_false_iff_not, bne_iff_ne, ne_eq, Bool.not_eq_true', Bool.not_eq_false', Int.not_le, Int.not_lt, bne_eq_false_iff_eq, Bool.or_eq_true, Bool.and_eq_true, Bool.or_eq_false_iff] at hc)))
      apply SeqP.nil
      refine hKP _ _ (hTP' _ (hw9)) ?_
      clear hKP hTP hTP'
      go_wp2_with fail
      refine (totals_any T _ _ _ BV9).mono ?_
      rintro e w10 ⟨rfl, hb⟩
      have hw10 := below_trans hw9 hb hz9
      have B10 := B9.keep hb
      have hz10 := hw10.size
      clear hb BV9 hw9 B9
      go_wp2_with ((with_reducible refine at_list ?_); first | ((refine wpList_store_blk rfl 51 _ _ rfl _ (totv _) rfl rfl _ _ (Blk.new _ _ _) tot_info rfl (totv_one _) ?_; intro w11 B11 hb11 hk11); have B411 := blk_step B10 hk11; have hw11 := (hw10.alloc hz10 _).trans (hb11 _ hz10); clear hb11 hk11 B10) | refine wpList_load_blk_g 51 _ rfl rfl _ rfl _ _ _ (B411) Try.underlying51 rfl tot_info ?_ | refine wpList_load_blk_g 51 _ rfl rfl _ rfl _ _ _ (B11) Try.underlying51 rfl tot_info ?_ | refine wpList_agg_g rfl rfl Try.eqGuardType51 rfl rfl (eql_tot _ T) ?_)
      refine (lives_any _).mono ?_
      rintro e wz ⟨rfl, hb⟩
      have hBz := below_trans hw11 hb hw11.size
      clear hb
      go_wp2_with fail
      go_ret
      exact ⟨rfl, hBz⟩
end Go.Proofs.Ytelkibmiinjokaa
