/-
  The walk over a model's Do.
-/
import Derived.Test.YtlineikeafepcaaMdl
import Derived.Test.YtlineikeafepcaaOrders
import Derived.Test.YtlineikeafepcaaFoldW
import Derived.Test.YtlineikeafepcaaSeqZ
set_option linter.unusedSimpArgs false
set_option linter.unusedVariables false
set_option maxRecDepth 100000
namespace Go.Proofs.Ytlineikeafepcaa
open Go Go.RowKit Go.Sq Go.Wd Go.Arch

theorem check_o (o : Ord) (w : World) : Calls Try.prog 38 #[.agg (ordv o).toArray] w fun e w' => e = .returned (.int .i64 (errOf (ordOk o))) ∧ Below w.heap.size w w' := by
  obtain ⟨a, b, c, d, e⟩ := o
  exact check_any a b c d e w

/-- One literal entry. -/
theorem lit_log (w : World) (e : Ent) : LogAt (w.alloc (.cells (vals e).toArray 84)) (w.alloc (.cells (vals e).toArray 84)).heap.size (some ⟨w.heap.size, 0, none⟩, 1, 1) [e] := by
  have hb := Blk.new w 84 (vals e)
  refine ⟨rfl, Nat.le_refl _, by simp, fun _ => ⟨_, 0, rfl, hb.lt, fun i x hx => ?_⟩⟩
  have hi := (List.getElem?_eq_some_iff.1 hx).1
  obtain rfl : i = 0 := by simpa using hi
  cases hx
  exact ⟨hb.cell 0, hb.cell 1, hb.cell 2, hb.cell 3, hb.cell 4, hb.cell 5⟩

/-- What Do leaves. -/
def DoPost (M : Logs) (o : Ord) (g : Nat) (w : World) (e : Ending) (w' : World) : Prop :=
  ∃ ss' sl, e = .returned (.tuple #[.agg (outv (doM M o).2.1 sl).toArray, .int .i64 (doM M o).2.2]) ∧ MdlAt w' g ss' (doM M o).1 ∧ EvAt w' w.heap.size none sl (doM M o).2.1.2.2 ∧ w.grownBy w' (some g)

theorem below_new {w w' : World} {o : Obj} (hg : (w.alloc o).grownBy w' (some w.heap.size)) : Below w.heap.size w w' := ((Below.refl _ _).alloc (Nat.le_refl _) o).trans (below_grown hg (Nat.le_refl _) (by simp))
theorem EvAt.weaken {w : World} {B B' : Nat} {own : Option Nat} {sl : Sl} {evs : List (Int × Int)} (h : EvAt w B own sl evs) (hB : B' ≤ B) : EvAt w B' none sl evs := by
  rcases h with h | ⟨g, k, a, h1, h2, h3, h4, h5, h6⟩
  · exact .inl h
  · exact .inr ⟨g, k, a, h1, h2, by omega, h4, by simp, h6⟩
/-- Ahead of the fold: the log is there. -/
def DoAt (M : Logs) (o : Ord) (g : Nat) (w w5 : World) (L : List Ent) (k : Nat) : Prop :=
  ∃ ss5, MdlAt w5 g ss5 (doM M o).1 ∧ (doM M o).2 = ((foldS L).2.getD k noOut, 0) ∧ w.grownBy w5 (some g)

set_option maxHeartbeats 4000000 in
theorem do_any (M : Logs) (o : Ord) (g : Nat) (ss : Nat → SlcE) (w : World) (H : MdlAt w g ss M) (HF : FineM M) :
    Calls Try.prog 16 #[.pointer (some ⟨g, 0, none⟩), .agg (ordv o).toArray] w fun e w' => DoPost M o g w e w' := by
  have hz : Below w.heap.size w ((w.alloc (.cells (ordv o).toArray 37)).alloc (.cells #[.int .i64 0, .int .i64 0, .slice none 0 0] 32)) := ((Below.refl _ _).alloc (Nat.le_refl _) _).alloc (by simp) _
  have BO := (Blk.new w 37 (ordv o)).alloc (.cells #[.int .i64 0, .int .i64 0, .slice none 0 0] 32)
  have BR := Blk.new1 w (.cells (ordv o).toArray 37) 32 [.int .i64 0, .int .i64 0, .slice none 0 0]
  have hm := H.keep hz
  have hgl := H.lt
  have HH := Lib.hid (And.intro hz (And.intro BO (And.intro BR hm)))
  have c0 := hm.made
  clear hz BO BR hm H
  go_enter Try.func16, Try.ntmps16
  go_wp2_with ((with_reducible refine at_list ?_); first | refine wpList_load_blk rfl 37 _ rfl _ rfl _ _ _ (HH.out.2.1) Try.underlying37 rfl order_info ?_)
  refine (check_o o _).mono ?_
  rintro e w1 ⟨rfl, hb⟩
  have hw1 := below_trans HH.out.1 hb HH.out.1.size
  have B1 := HH.out.2.1.keep hb
  have R1 := HH.out.2.2.1.keep hb
  have M1 := HH.out.2.2.2.keep hb
  have hz1 := hw1.size
  have lR := R1.lt
  clear HH hb c0
  cases ho : ordOk o
  case false =>
    have hd : doM M o = (M, noOut, 2) := by unfold doM; rw [ho]; rfl
    rw [show errOf false = 2 from rfl]
    go_wp2_with ((with_reducible refine at_list ?_); first | (refine wpList_store_own rfl 32 _ _ rfl _ (outv noOut (none, 0, 0)) rfl rfl _ _ (R1) outcome_info rfl (outv_one _ _) ?_; intro w2 R2 g2))
    apply ret_of
    · exact results_blk_tmp rfl _ _ _ _ _ _ rfl (R2) Try.underlying32 rfl outcome_info _ rfl
    · refine ⟨rfl, ?_⟩
      unfold DoPost
      rw [hd]
      exact ⟨ss, (none, 0, 0), rfl, M1.other R1 (by decide) g2 (by omega), .inl ⟨rfl, rfl⟩, grown_new (only_of_below hw1 _) (Nat.le_succ _) g2⟩
  case true =>
    rw [show errOf true = 0 from rfl]
    have hr := ordOk_in ho
    obtain ⟨S, hS⟩ := Int.eq_ofNat_of_zero_le hr.2.2.1
    have hS4 : S < 4 := by omega
    have hSt : o.stream.toNat = S := by rw [hS]; rfl
    have hfS := HF S hS4
    have hwf := fine_wf HF hS4
    have hL := (M1.2 S hS4).to_log
    have HM := Lib.hid M1
    have x1 := B1.cell 1
    have x0 := B1.cell 0
    have s1 := M1.slice hS4
    simp only [ordv, List.getElem?_cons_succ, List.getElem?_cons_zero] at x0 x1
    rw [hS] at x1
    have HO := Lib.hid (And.intro ho (And.intro hS hSt))
    clear ho hS hSt hr M1
    obtain ⟨sS, hsS⟩ : ∃ x, ss S = x := ⟨_, rfl⟩
    obtain ⟨A, n, c⟩ := sS
    rw [hsS] at s1 hL
    have hS4i : (S : Int) < 4 := by omega
    clear hsS
    go_wp2_with fail
    refine wp_region_p ([(0, true), (1, true), (2, true), (3, true), (4, true), (5, true), (6, true), (7, true)]) (fun w' => Below w1.heap.size w1 w') (by kernel_rfl) rfl (by kernel_rfl) (by kernel_rfl) ((Below.refl _ _).drew) rfl ?_
    intro KP RP TP hKP hTP hTP'
    simp only [pick, nth]
    go_wp2_with (first
      | (apply SeqP.skip; rfl; simp only [Act.put, List.setIfInBounds_toArray, List.set_cons_zero, List.set_cons_succ])
      | (apply SeqP.call; rfl; rfl; (intro w2 hw; have hw := hTP _ hw; ((have z0 := (hw.cell (p := ⟨w.heap.size, 1, none⟩) B1.lt).trans x1; have z1 := (hw.cell (p := ⟨g, 1 + S, none⟩) HM.out.lt).trans s1; simp only [slv] at z1)); go_simp; exact ⟨rfl, rfl⟩); (intro w2 hw; have hw := hTP _ hw; ((have z0 := (hw.cell (p := ⟨w.heap.size, 1, none⟩) B1.lt).trans x1; have z1 := (hw.cell (p := ⟨g, 1 + S, none⟩) HM.out.lt).trans s1; simp only [slv] at z1)); (first | fail)); simp only [Act.put, List.setIfInBounds_toArray, List.set_cons_zero, List.set_cons_succ])
      | (apply SeqP.pure; rfl; (intro w2 hw; have hw := hTP _ hw; ((have z0 := (hw.cell (p := ⟨w.heap.size, 1, none⟩) B1.lt).trans x1; have z1 := (hw.cell (p := ⟨g, 1 + S, none⟩) HM.out.lt).trans s1; simp only [slv] at z1)); go_simp; with_reducible rfl); simp only [Act.put, List.setIfInBounds_toArray, List.set_cons_zero, List.set_cons_succ])
      | (apply SeqP.split; rfl; rfl; all_goals (intro hc; simp only [hc]; try simp only [beq_iff_eq, decide_eq_true_eq, beq_eq_false_iff_ne, decide_eq_false_iff_not, bne_iff_ne, ne_eq, Bool.not_eq_true', Bool.not_eq_false', Int.not_le, Int.not_lt, bne_eq_false_iff_eq, Bool.or_eq_true, Bool.and_eq_true, Bool.or_eq_false_iff] at hc)))
    apply SeqP.nil
    refine hKP _ _ (hTP' _ ((Below.refl _ _).drew)) ?_
    clear hKP hTP hTP'
    have hL2 : Ents w1.drew w1.drew.heap.size A (M S) := hL.2.2.2
    have hn : n = (M S).length := hL.1
    subst hn
    have hcap : (M S).length ≤ c := hL.2.1
    have hcap2 : c ≤ 9223372036854775807 := hL.2.2.1
    clear s1 x1
    go_wp2_with fail
    refine (find_any (M S) A c o.id _ hL2 (by omega)).mono ?_
    rintro e w2 ⟨rfl, hb0⟩
    have hb : Below w1.heap.size w1 w2 := (Below.refl _ _).drew.trans hb0
    have hw2 := below_trans hw1 hb hz1
    have B2 := B1.keep hb
    have R2 := R1.keep hb
    have M2 := HM.out.keep hb
    have E2 := Lib.hid ((hL2.below hb0).more hb0.size)
    have hz2 := hw2.size
    clear hb hb0 hL hL2 HM B1 R1 hz1 hw1 x0
    cases hf : firstIn (M S) (M S).length o.id
    case' some =>
      rename_i k
      have hk := first_lt _ _ _ _ hf
      have hd : doM M o = (M, ((foldS (M S)).2.getD k noOut), 0) := by
        unfold doM
        rw [if_pos HO.out.1, HO.out.2.2, hf]
      have HD := Lib.hid (show DoAt M o g w w2 (M S) k by unfold DoAt; rw [hd]; exact ⟨ss, M2, rfl, only_of_below hw2 _⟩)
      rw [show whereK (some k) = (k : Int) from rfl, show (some k).isSome = true from rfl]
      obtain ⟨w5, rfl⟩ : ∃ z, z = w2 := ⟨_, rfl⟩
      have hl5 : (M S).length ≤ 64 := hfS.1
      have R5 := R2
      have E5 := E2
      generalize M S = L at hk hwf hl5 E5 HD ⊢
      clear hd hf hfS hw2 M2 B2 R2 E2 hz2
      go_wp2_with fail
    case' none =>
      by_cases h64 : 64 ≤ (M S).length
      case' pos =>
        have hd : doM M o = (M, noOut, 3) := by
          unfold doM
          rw [if_pos HO.out.1, HO.out.2.2, hf]
          exact if_pos h64
        have h64i : (64 : Int) ≤ ((M S).length : Int) := by omega
        rw [show whereK none = 0 from rfl, show (none : Option Nat).isSome = false from rfl]
        go_wp2_with ((with_reducible refine at_list ?_); first | (refine wpList_store_own rfl 32 _ _ rfl _ (outv noOut (none, 0, 0)) rfl rfl _ _ (R2) outcome_info rfl (outv_one _ _) ?_; intro w3 R3 g3))
        apply ret_of
        · exact results_blk_tmp rfl _ _ _ _ _ _ rfl (R3) Try.underlying32 rfl outcome_info _ rfl
        refine ⟨rfl, ?_⟩
        unfold DoPost
        rw [hd]
        exact ⟨ss, (none, 0, 0), rfl, M2.other R2 (by decide) g3 (by omega), .inl ⟨rfl, rfl⟩, grown_new (only_of_below hw2 _) (Nat.le_succ _) g3⟩
      case' neg =>
        have hd : doM M o = (upd M S (M S ++ [entOf o]), (foldS (M S ++ [entOf o])).2.getD (M S).length noOut, 0) := by
          unfold doM
          rw [if_pos HO.out.1, HO.out.2.2, hf]
          exact if_neg h64
        have h64i : ¬ (64 : Int) ≤ ((M S).length : Int) := by omega
        rw [show whereK none = 0 from rfl, show (none : Option Nat).isSome = false from rfl]
        go_wp2_with fail
        have x0 := B2.cell 0
        have x1 := B2.cell 1
        have x2 := B2.cell 2
        have x3 := B2.cell 3
        have x4 := B2.cell 4
        simp only [ordv, List.getElem?_cons_succ, List.getElem?_cons_zero] at x0 x1 x2 x3 x4
        have lB := B2.lt
        have FO : ∀ w', Below w2.heap.size w2 w' → w'.cell? ⟨w.heap.size, 0, none⟩ = some (.int .i64 o.id) ∧ w'.cell? ⟨w.heap.size, 1, none⟩ = some (.int .i64 o.stream) ∧ w'.cell? ⟨w.heap.size, 2, none⟩ = some (.int .i64 o.expect) ∧ w'.cell? ⟨w.heap.size, 3, none⟩ = some (.int .i64 o.kind) ∧ w'.cell? ⟨w.heap.size, 4, none⟩ = some (.int .i64 o.arg) := fun w' hw =>
          ⟨(hw.cell (p := ⟨w.heap.size, 0, none⟩) lB).trans x0, (hw.cell (p := ⟨w.heap.size, 1, none⟩) lB).trans x1, (hw.cell (p := ⟨w.heap.size, 2, none⟩) lB).trans x2, (hw.cell (p := ⟨w.heap.size, 3, none⟩) lB).trans x3, (hw.cell (p := ⟨w.heap.size, 4, none⟩) lB).trans x4⟩
        clear x0 x1 x2 x3 x4
        have hk0 : (M S).length ≤ 64 := hfS.1
        refine wp_region_p ([(0, true), (1, true), (2, true), (3, true), (4, true), (5, true), (6, false), (7, false), (8, true)]) (fun w' => Below w2.heap.size w2 w') (by kernel_rfl) rfl (by kernel_rfl) (by kernel_rfl) ((Below.refl _ _).drew) rfl ?_
        intro KP RP TP hKP hTP hTP'
        simp only [pick, nth]
        go_wp2_with (first
          | (apply SeqP.skip; rfl; simp only [Act.put, List.setIfInBounds_toArray, List.set_cons_zero, List.set_cons_succ])
          | (apply SeqP.call; rfl; rfl; (intro w2 hw; have hw := hTP _ hw; ((obtain ⟨z0, z1, z2, z3, z4⟩ := FO _ hw)); go_simp; exact ⟨rfl, rfl⟩); (intro w2 hw; have hw := hTP _ hw; ((obtain ⟨z0, z1, z2, z3, z4⟩ := FO _ hw)); (first | fail)); simp only [Act.put, List.setIfInBounds_toArray, List.set_cons_zero, List.set_cons_succ])
          | (apply SeqP.pure; rfl; (intro w2 hw; have hw := hTP _ hw; ((obtain ⟨z0, z1, z2, z3, z4⟩ := FO _ hw)); go_simp; with_reducible rfl); simp only [Act.put, List.setIfInBounds_toArray, List.set_cons_zero, List.set_cons_succ])
          | (apply SeqP.split; rfl; rfl; all_goals (intro hc; simp only [hc]; try simp only [beq_iff_eq, decide_eq_true_eq, beq_eq_false_iff_ne, decide_eq_false_iff_not, bne_iff_ne, ne_eq, Bool.not_eq_true', Bool.not_eq_false', Int.not_le, Int.not_lt, bne_eq_false_iff_eq, Bool.or_eq_true, Bool.and_eq_true, Bool.or_eq_false_iff] at hc)))
        apply SeqP.eff
        · rfl
        intro KE hKE
        go_wp2_with fail
        have ha := (Below.refl w2.heap.size w2).drew.alloc (Nat.le_refl _) (.cells (vals (entOf o)).toArray 84)
        have hL := lit_log w2.drew (entOf o)
        obtain ⟨⟨A5, n5, c5⟩, w4, hrun, hn5, hL4, hb4⟩ := app_own (M S) [entOf o] A (some ⟨w2.heap.size, 0, none⟩) 1 (w2.drew.alloc (.cells (vals (entOf o)).toArray 84)) ((E2.out.below ha).more ha.size) hL.2.2.2 (by simp) (by simp; omega)
        have hb5 := below_trans ha hb4 ha.size
        refine hKE _ _ (hTP' _ ha) ?_
        dsimp only [slv] at hrun hL4 hn5
        obtain ⟨L, hLL⟩ : ∃ L, M S ++ [entOf o] = L := ⟨_, rfl⟩
        rw [hLL] at hL4 hn5
        have HLK := Lib.hid (And.intro hLL (show L.length = (M S).length + 1 by rw [← hLL]; simp))
        clear hLL
        obtain rfl : n5 = L.length := hn5
        clear hKE KE ha
        apply SeqP.eff
        · rfl
        intro KE hKE
        refine oper_app (by rfl) (by rfl) (by rfl) hrun ?_
        refine hKE _ _ (hTP' _ hb5) ?_
        clear hKE KE hrun hL hb4
        go_wp2_with (first
          | (apply SeqP.skip; rfl; simp only [Act.put, List.setIfInBounds_toArray, List.set_cons_zero, List.set_cons_succ])
          | (apply SeqP.call; rfl; rfl; (intro w2 hw; have hw := hTP _ hw; (skip); go_simp; exact ⟨rfl, rfl⟩); (intro w2 hw; have hw := hTP _ hw; (skip); (first | fail)); simp only [Act.put, List.setIfInBounds_toArray, List.set_cons_zero, List.set_cons_succ])
          | (apply SeqP.pure; rfl; (intro w2 hw; have hw := hTP _ hw; (skip); go_simp; with_reducible rfl); simp only [Act.put, List.setIfInBounds_toArray, List.set_cons_zero, List.set_cons_succ])
          | (apply SeqP.split; rfl; rfl; all_goals (intro hc; simp only [hc]; try simp only [beq_iff_eq, decide_eq_true_eq, beq_eq_false_iff_ne, decide_eq_false_iff_not, bne_iff_ne, ne_eq, Bool.not_eq_true', Bool.not_eq_false', Int.not_le, Int.not_lt, bne_eq_false_iff_eq, Bool.or_eq_true, Bool.and_eq_true, Bool.or_eq_false_iff] at hc)))
        apply SeqP.nil
        refine hKP _ _ (hTP' _ (hb5)) ?_
        clear hKP hTP hTP'
        have hb5' : Below w2.heap.size w2 w4 := hb5
        have B4 := B2.keep hb5'
        have R4 := R2.keep hb5'
        have M4 := M2.keep hb5'
        have hw4 := below_trans hw2 hb5' hz2
        have hz4 := hw4.size
        have lg := M4.lt
        have x1 := B4.cell 1
        simp only [ordv, List.getElem?_cons_succ, List.getElem?_cons_zero] at x1
        rw [HO.out.2.1] at x1
        have HX := Lib.hid (And.intro M4 (And.intro B4 (And.intro R4 (And.intro hL4 hw4))))
        have lB4 := B4.lt
        have fr := M4.1.frozen (1 + S)
        have sz := M4.slice hS4
        clear FO hb5 hb5' B2 R2 M2 E2 hw2 hz2 lB M4 B4 R4 hL4
        go_wp2_with fail
        have lgB : w.heap.size ≠ g := by omega
        refine wp_region_p ([(0, true), (1, true), (2, true), (3, true), (4, true), (5, true), (6, true), (7, false)]) (fun w' => w4.grownBy w' (some g)) (by kernel_rfl) rfl (by kernel_rfl) (by kernel_rfl) (grown_below (World.grownBy.refl _ _) (Below.refl _ _).drew) rfl ?_
        intro KP RP TP hKP hTP hTP'
        simp only [pick, nth]
        go_wp2_with (first
          | (apply SeqP.skip; rfl; simp only [Act.put, List.setIfInBounds_toArray, List.set_cons_zero, List.set_cons_succ])
          | (apply SeqP.call; rfl; rfl; (intro w2 hw; have hw := hTP _ hw; ((have z1 := (hw.cell_far ⟨w.heap.size, 1, none⟩ lB4 (fun e => lgB (Option.some.inj e))).trans x1)); go_simp; exact ⟨rfl, rfl⟩); (intro w2 hw; have hw := hTP _ hw; ((have z1 := (hw.cell_far ⟨w.heap.size, 1, none⟩ lB4 (fun e => lgB (Option.some.inj e))).trans x1)); (first | fail)); simp only [Act.put, List.setIfInBounds_toArray, List.set_cons_zero, List.set_cons_succ])
          | (apply SeqP.pure; rfl; (intro w2 hw; have hw := hTP _ hw; ((have z1 := (hw.cell_far ⟨w.heap.size, 1, none⟩ lB4 (fun e => lgB (Option.some.inj e))).trans x1)); go_simp; with_reducible rfl); simp only [Act.put, List.setIfInBounds_toArray, List.set_cons_zero, List.set_cons_succ])
          | (apply SeqP.split; rfl; rfl; all_goals (intro hc; simp only [hc]; try simp only [beq_iff_eq, decide_eq_true_eq, beq_eq_false_iff_ne, decide_eq_false_iff_not, bne_iff_ne, ne_eq, Bool.not_eq_true', Bool.not_eq_false', Int.not_le, Int.not_lt, bne_eq_false_iff_eq, Bool.or_eq_true, Bool.and_eq_true, Bool.or_eq_false_iff] at hc)))
        apply SeqP.eff
        · rfl
        intro KE hKE
        go_wp2_with fail
        refine hKE _ _ (hTP' _ (grown_below (grown_set w4 g (1 + S) _) (Below.refl _ _).drew)) ?_
        clear hKE KE
        apply SeqP.nil
        refine hKP _ _ (hTP' _ (grown_below (grown_set w4 g (1 + S) _) (Below.refl _ _).drew)) ?_
        clear hKP hTP hTP'
        obtain ⟨hLL, hLk⟩ := HLK.out
        obtain ⟨k, hkk⟩ : ∃ k, (M S).length = k := ⟨_, rfl⟩
        rw [hLL, hkk] at hd
        rw [hkk] at hLk
        have hgs := grown_set w4 g (1 + S) (slv (A5, L.length, c5))
        have hM5 := (HX.out.1.set hS4 (x := (A5, L.length, c5)) HX.out.2.2.2.1).keep (Below.refl _ _).drew
        have R5 : Blk (w4.setCell ⟨g, 1 + S, none⟩ (slv (A5, L.length, c5))).drew (w.heap.size + 1) 32 [.int .i64 0, .int .i64 0, .slice none 0 0] := (HX.out.2.2.1.grown hgs (fun e => by have := Option.some.inj e; omega)).keep (Below.refl _ _).drew
        have hL5 := Row.to_log (s := (A5, L.length, c5)) (Row.keep (own_beside HX.out.2.2.2.1 hgs (blk_not HX.out.1.1 (show 52 ≠ 84 by decide))) (Below.refl _ _).drew)
        have HD := Lib.hid (show DoAt M o g w (w4.setCell ⟨g, 1 + S, none⟩ (slv (A5, L.length, c5))).drew L k by
          unfold DoAt
          rw [hd]
          exact ⟨_, hM5, rfl, grown_below ((only_of_below HX.out.2.2.2.2 (some g)).trans hgs) (Below.refl _ _).drew⟩)
        have E5 := Lib.hid hL5.2.2.2
        have hl5 : L.length ≤ 64 := by omega
        have hk : k < L.length := by omega
        have hwf : ∀ e ∈ L, (Lit.int .i64 e.2.1).wf = true := fun e he => by
          rw [← hLL] at he
          rcases List.mem_append.1 he with he | he
          · exact hwf e he
          · obtain rfl : e = entOf o := by simpa using he
            have := ordOk_in HO.out.1
            exact wf_of_range (by show -9223372036854775808 ≤ o.id ∧ o.id ≤ 9223372036854775807; omega)
        rw [hkk]
        simp only [slv] at HD E5 R5
        generalize (w4.setCell ⟨g, 1 + S, none⟩ (Value.slice A5 L.length c5)).drew = w5 at HD E5 R5 ⊢
        clear hM5 hL5 hgs HX hLL hkk hLk hd h64 h64i fr sz lB4 lgB x1 hf hfS hk0 lg hz4
        go_wp2_with fail
    all_goals
      refine (of_any L _ _ w5 E5.out (by omega) hwf).mono ?_
      rintro e w6 ⟨v, rfl, hO, hb⟩
      have R6 := R5.keep hb
      have l6 := R6.lt
      have hfl : (foldS L).2.length = L.length := fold_len L L.length (Nat.le_refl _)
      obtain ⟨ss5, hM, hdo, hgr⟩ := HD.out
      have hs5 := hgr.size
      have HQ := Lib.hid (And.intro hdo (And.intro (hM.keep hb) (grown_below hgr hb)))
      obtain ⟨q, cap, oo, so, rfl, ho, hq1, hq2, hq3, hq4, hE, d0, d1, d2⟩ := hO.read (show k < (foldS L).2.length by omega)
      rw [hfl]
      have BS : Blk (w6.alloc (.cells #[.int .i64 0, .bool false, .int .i64 0, .int .i64 0] 40)) w6.heap.size 40 [.int .i64 0, .bool false, .int .i64 0, .int .i64 0] := Blk.new w6 _ _
      have hoo : (foldS L).2.getD k noOut = oo := by rw [List.getD, ho]; rfl
      have HO2 := Lib.hid (And.intro hoo (And.intro hE hb.size))
      clear hM hdo hgr HD hO ho hE hoo hb R5 hfl E5 hwf
      go_wp2_with ((with_reducible refine at_list ?_); first | (refine wpList_store_own rfl 40 _ _ rfl _ (stv (foldS L).1) rfl rfl _ _ (BS) state_info rfl (stv_one _) ?_; intro w7 S7 g7) | (with_reducible refine cut_at 71 rfl ?_))
      refine Cut.go ?_
      have hb7 := below_new g7
      have e0 := (hb7.cell (p := ⟨q, k * 3, none⟩) hq2).trans d0
      have e1 := (hb7.cell (p := ⟨q, k * 3 + 1, none⟩) hq2).trans d1
      have e2 := (hb7.cell (p := ⟨q, k * 3 + 2, none⟩) hq2).trans d2
      have R7 := R6.keep hb7
      have HB7 := Lib.hid hb7
      clear hb7 d0 d1 d2 BS g7 S7 R6
      have hki : (k : Int) < (L.length : Int) := by omega
      go_wp2_with ((with_reducible refine at_list ?_); first | (refine wpList_store_own rfl 32 _ _ rfl _ (outv oo so) rfl rfl _ _ (R7) outcome_info rfl (outv_one _ _) ?_; intro w8 R8 g8))
      apply ret_of
      · exact results_blk_tmp rfl _ _ _ _ _ _ rfl (R8) Try.underlying32 rfl outcome_info _ rfl
      refine ⟨rfl, ss5, so, ?_, ?_, ?_, ?_⟩
      · rw [HQ.out.1, HO2.out.1]
        rfl
      · exact (HQ.out.2.1.keep HB7.out).other R7 (by decide) g8 (by omega)
      · rw [HQ.out.1, HO2.out.1]
        have h1 := HO2.out.2.1.keep (only_of_below HB7.out none) (fun g e => by cases e)
        exact (h1.keep g8 (fun g e => by cases e; exact .inl (by omega))).weaken (by omega)
      · exact grown_new (grown_below HQ.out.2.2 HB7.out) (Nat.le_succ _) g8
end Go.Proofs.Ytlineikeafepcaa
