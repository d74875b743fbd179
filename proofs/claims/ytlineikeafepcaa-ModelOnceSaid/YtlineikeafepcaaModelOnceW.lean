/-
  The walk over the statement ModelOnce.
-/
import Derived.Test.YtlineikeafepcaaMdlTold
import Derived.Test.YtlineikeafepcaaMdlOrd
import Derived.Test.YtlineikeafepcaaMdlLivesW
set_option linter.unusedSimpArgs false
set_option linter.unusedVariables false
set_option maxRecDepth 100000
namespace Go.Proofs.Ytlineikeafepcaa
open Go Go.RowKit Go.Sq Go.Wd Go.Arch

abbrev outsT (l : List Ord) (j : Nat) : List OutS := (toldTo l j).map (·.1)
abbrev boolsT (l : List Ord) (j : Nat) : List Bool := (toldTo l j).map (·.2)

set_option maxHeartbeats 4000000 in
theorem modelOnce_walk (l : List Ord) (A : Option Addr) (c : Nat) (n : Nat) (hn : n ≤ 255) (w : World) (hl : Ords w w.heap.size A l) (hll : l.length ≤ 9223372036854775807) :
    Calls Try.prog 5 #[.slice A l.length c, .int .u8 n] w fun r w' => r = .returned (.bool true) ∧ Below w.heap.size w w' := by
  have HL := Lib.hid hl
  clear hl
  go_enter Try.func5, Try.ntmps5
  by_cases h80 : 80 < l.length
  case pos =>
    have h80b : (80 : Int) < (l.length : Int) := by omega
    go_wp2_with fail
    refine (lives_any _).mono ?_
    rintro r w1 ⟨rfl, hb⟩
    go_wp2_with fail
    go_ret
    exact ⟨rfl, hb⟩
  have h80b : ¬ (80 : Int) < (l.length : Int) := by omega
  go_wp2_with fail
  refine (new_any _).mono ?_
  rintro r w1 ⟨rfl, rfl⟩
  have HM := Lib.hid (show TI w (w.alloc (.cells #[.bool true, .slice none 0 0, .slice none 0 0, .slice none 0 0, .slice none 0 0] 52)) w.heap.size noSl noLogs (.slice none 0 0) [] (.slice none 0 0) [] from ⟨MI.new w, Outs.nil _ _, BRow.nil _ _⟩)
  generalize (w.alloc (.cells #[.bool true, .slice none 0 0, .slice none 0 0, .slice none 0 0, .slice none 0 0] 52)) = w1 at HM ⊢
  go_wp2_with fail
  go_loopg [6, 7, 8] l.length (fun q v u i wr => ∃ (j : Nat) (ss : Nat → SlcE), q = l.length - j ∧ j ≤ l.length ∧ i = .int .i64 j ∧ TI w wr w.heap.size ss (playM noLogs (l.take j)) v (outsT l j) u (boolsT l j))
  case atStart => exact ⟨0, noSl, rfl, by omega, rfl, HM.out⟩
  case round =>
    clear HM
    obtain ⟨j, ss, hq, hj, rfl, hM⟩ := hrel
    have AA : Aside (gk = l.length - j) := hq
    have HM := Lib.hid hM
    clear hq hM
    by_cases hlt : j < l.length
    · obtain ⟨b1, o1, x, rfl, hx, hb1, FA⟩ := HL.out.at_ hlt
      obtain ⟨p0, p1, p2, p3, p4⟩ := FA _ HM.out.1.1
      have htl := told_len l j hj
      obtain ⟨⟨p, er⟩, hv⟩ : ∃ z, (doM (playM noLogs (l.take j)) x).2 = z := ⟨_, rfl⟩
      have hnx : toldTo l (j + 1) = toldTo l j ++ [(p, decide (er = 0))] := by
        have := told_next hx.out
        rw [show (doM (playM (fun _ => []) (l.take j)) x).2 = (p, er) from hv] at this
        exact this
      have HV := Lib.hid (And.intro hv (And.intro hnx htl))
      clear FA hv hnx htl
      go_wp2_with fail
      refine (do_val HV.out.1 w.heap.size ss wr HM.out.1.2.2 (fine_play fine_nil _)).mono ?_
      rintro r w2 ⟨ss', sl, rfl, hm, hE, hg⟩
      have HM2 := Lib.hid (HM.out.do_ hg hm)
      have HE := Lib.hid (hE.newer (B' := w.heap.size + 1) (fun q hq => HM.out.2.1.own_lt q hq) HM.out.1.2.2.lt)
      have BX : Blk (w2.alloc (.cells #[.int .i64 0, .int .i64 0, .slice none 0 0] 32)) w2.heap.size 32 [.int .i64 0, .int .i64 0, .slice none 0 0] := Blk.new w2 _ _
      clear hm hg hE HM p0 p1 p2 p3 p4
      go_wp2_with ((with_reducible refine at_list ?_); first | (refine wpList_store_own rfl 32 _ _ rfl _ (outv p sl) rfl rfl _ _ (BX) outcome_info rfl (outv_one _ _) ?_; intro w3 S3 g3) | (with_reducible refine cut_at 42 rfl ?_))
      refine Cut.go ?_
      have hb3 := below_new g3
      have HM3 := Lib.hid (HM2.out.keep hb3)
      have HE3 := HE.out.pure hb3
      have z0 := S3.cell 0
      have z1 := S3.cell 1
      have z2 := S3.cell 2
      simp only [outv, List.getElem?_cons_succ, List.getElem?_cons_zero] at z0 z1 z2
      obtain ⟨v', w4, hrun, HM4⟩ := HM3.out.tell p sl HE3 (by rw [List.length_map, HV.out.2.2]; omega)
      obtain ⟨u', w5, hrun2, HM5⟩ := HM4.out.take_ (er == 0) (by rw [List.length_map, HV.out.2.2]; omega)
      clear BX S3 g3 hb3 HE HE3 HM2 HM3 HM4
      go_wp2_with (at_builtin; first | refine wpList_app rfl (by rfl) (by rfl) (by rfl) hrun ?_ | refine wpList_app rfl (by rfl) (by rfl) (by rfl) hrun2 ?_)
      go_roundg (l.length - (j + 1))
      case measure => have hkk := AA.out; omega
      case rel =>
        refine ⟨j + 1, ss', rfl, by omega, by go_num, ?_⟩
        unfold outsT boolsT
        rw [play_next hx.out, HV.out.2.1, List.map_append, List.map_append]
        exact HM5.out
    · obtain rfl : j = l.length := by omega
      rw [List.take_length] at HM
      obtain ⟨w3, rfl⟩ : ∃ z, z = wr := ⟨_, rfl⟩
      clear hlt hj
      go_wp2_with fail
      go_loopg [11] l.length (fun q i wr => ∃ (j : Nat), q = l.length - j ∧ j ≤ l.length ∧ i = .int .i64 j ∧ TI w wr w.heap.size ss (playM noLogs l) u6 (outsT l l.length) u7 (boolsT l l.length))
      case atStart => exact ⟨0, rfl, by omega, rfl, HM.out⟩
      case round =>
        clear HM
        obtain ⟨j, hq, hj, rfl, hM⟩ := hrel
        have AA : Aside (gk = l.length - j) := hq
        have HM := Lib.hid hM
        clear hq hM
        by_cases hlt : j < l.length
        · obtain ⟨b1, o1, x, rfl, hx, hb1, FA⟩ := HL.out.at_ hlt
          have hlen := told_len l l.length (Nat.le_refl _)
          obtain ⟨⟨p, b⟩, hpb⟩ : ∃ z, (toldTo l l.length)[j]? = some z := ⟨_, List.getElem?_eq_getElem (by omega)⟩
          obtain ⟨q1, c1, o', sl, hv1, ho', hq1, hq2, hq3, hq4, _, d0, d1, d2⟩ := HM.out.2.1.read (k := j) (by rw [List.length_map]; omega)
          have hop : o' = p := by
            unfold outsT at ho'
            rw [List.getElem?_map, hpb] at ho'
            exact (Option.some.inj ho').symm
          subst hop
          obtain ⟨q2, c2, hv2, hq2', e0⟩ := HM.out.2.2.at_ (j := j) (b := b) (by unfold boolsT; rw [List.getElem?_map, hpb]; rfl)
          rw [List.length_map, hlen] at hv1 hv2
          subst hv1 hv2
          have FB : ∀ w', Below wr.heap.size wr w' → OrdAt w' b1 (o1 + j * 5) x ∧ w'.cell? ⟨q1, j * 3, none⟩ = some (.int .i64 o'.1) ∧ w'.cell? ⟨q1, j * 3 + 1, none⟩ = some (.int .i64 o'.2.1) ∧ w'.cell? ⟨q2, j, none⟩ = some (.bool b) := fun w' hw =>
            ⟨FA _ (below_trans HM.out.1.1 hw HM.out.1.1.size), (hw.cell (p := ⟨q1, _, none⟩) hq2).trans d0, (hw.cell (p := ⟨q1, _, none⟩) hq2).trans d1, (hw.cell (p := ⟨q2, _, none⟩) hq2').trans e0⟩
          unfold OrdAt at FB
          have HP := Lib.hid (show b = true → allowsM (playM noLogs l) x.stream (x.id, o'.1, o'.2.1) = true from fun hb => by
            subst hb
            exact told_allows (fine_play fine_nil _) (told_all hx.out hpb))
          clear FA d0 d1 d2 e0 hpb ho' hlen hq3 hq4
          go_wp2_with fail
          refine wp_region_p ([(0, true), (1, true), (2, true), (3, true), (4, true), (5, true), (6, true), (7, true), (8, true), (9, true), (10, true), (11, true), (12, true), (13, true), (14, true), (15, true), (16, true), (17, true), (18, true), (19, true), (20, true), (21, true), (22, true), (23, true), (24, true), (25, true), (26, true), (27, false), (28, true), (29, true)]) (fun w' => Below wr.heap.size wr w') (by kernel_rfl) rfl (by kernel_rfl) (by kernel_rfl) ((Below.refl _ _).drew) rfl ?_
          intro KP RP TP hKP hTP hTP'
          simp only [pick, nth]
          cases b
          case' false =>
            go_wp2_with (first
              | (apply SeqP.skip; rfl; simp only [Act.put, List.setIfInBounds_toArray, List.set_cons_zero, List.set_cons_succ])
              | (apply SeqP.call; rfl; rfl; (intro w2 hw; have hw := hTP _ hw; ((obtain ⟨⟨z0, z1, z2, z3, z4⟩, z5, z6, z7⟩ := FB _ hw)); go_simp; exact ⟨rfl, rfl⟩); (intro w2 hw; have hw := hTP _ hw; ((obtain ⟨⟨z0, z1, z2, z3, z4⟩, z5, z6, z7⟩ := FB _ hw)); (first | fail)); simp only [Act.put, List.setIfInBounds_toArray, List.set_cons_zero, List.set_cons_succ])
              | (apply SeqP.pure; rfl; (intro w2 hw; have hw := hTP _ hw; ((obtain ⟨⟨z0, z1, z2, z3, z4⟩, z5, z6, z7⟩ := FB _ hw)); go_simp; with_reducible rfl); simp only [Act.put, List.setIfInBounds_toArray, List.set_cons_zero, List.set_cons_succ])
              | (apply SeqP.split; rfl; rfl; all_goals (intro hc; simp only [hc]; try simp only [beq_iff_eq, decide_eq_true_eq, beq_eq_false_iff_ne, decide_eq_false_iff_not, bne_iff_ne, ne_eq, Bool.not_eq_true', Bool.not_eq_false', Int.not_le, Int.not_lt, bne_eq_false_iff_eq, Bool.or_eq_true, Bool.and_eq_true, Bool.or_eq_false_iff] at hc)))
            apply SeqP.skip_eff
            · rfl
            · exact hTP' _ ((Below.refl _ _).drew)
            (try simp only [Act.put, List.setIfInBounds_toArray, List.set_cons_zero, List.set_cons_succ])
            go_wp2_with (first
              | (apply SeqP.skip; rfl; simp only [Act.put, List.setIfInBounds_toArray, List.set_cons_zero, List.set_cons_succ])
              | (apply SeqP.call; rfl; rfl; (intro w2 hw; have hw := hTP _ hw; (skip); go_simp; exact ⟨rfl, rfl⟩); (intro w2 hw; have hw := hTP _ hw; (skip); (first | fail)); simp only [Act.put, List.setIfInBounds_toArray, List.set_cons_zero, List.set_cons_succ])
              | (apply SeqP.pure; rfl; (intro w2 hw; have hw := hTP _ hw; (skip); go_simp; with_reducible rfl); simp only [Act.put, List.setIfInBounds_toArray, List.set_cons_zero, List.set_cons_succ])
              | (apply SeqP.split; rfl; rfl; all_goals (intro hc; simp only [hc]; try simp only [beq_iff_eq, decide_eq_true_eq, beq_eq_false_iff_ne, decide_eq_false_iff_not, bne_iff_ne, ne_eq, Bool.not_eq_true', Bool.not_eq_false', Int.not_le, Int.not_lt, bne_eq_false_iff_eq, Bool.or_eq_true, Bool.and_eq_true, Bool.or_eq_false_iff] at hc)))
            apply SeqP.nil
            refine hKP _ _ (hTP' _ ((Below.refl _ _).drew)) ?_
            clear hKP hTP hTP'
            have HM2 := Lib.hid (HM.out.keep (Below.refl _ _).drew)
            clear HM FB
            go_wp2_with fail
          case' true =>
            have HP2 := Lib.hid (HP.out rfl)
            go_wp2_with (first
              | (apply SeqP.skip; rfl; simp only [Act.put, List.setIfInBounds_toArray, List.set_cons_zero, List.set_cons_succ])
              | (apply SeqP.call; rfl; rfl; (intro w2 hw; have hw := hTP _ hw; ((obtain ⟨⟨z0, z1, z2, z3, z4⟩, z5, z6, z7⟩ := FB _ hw)); go_simp; exact ⟨rfl, rfl⟩); (intro w2 hw; have hw := hTP _ hw; ((obtain ⟨⟨z0, z1, z2, z3, z4⟩, z5, z6, z7⟩ := FB _ hw)); (first | fail)); simp only [Act.put, List.setIfInBounds_toArray, List.set_cons_zero, List.set_cons_succ])
              | (apply SeqP.pure; rfl; (intro w2 hw; have hw := hTP _ hw; ((obtain ⟨⟨z0, z1, z2, z3, z4⟩, z5, z6, z7⟩ := FB _ hw)); go_simp; with_reducible rfl); simp only [Act.put, List.setIfInBounds_toArray, List.set_cons_zero, List.set_cons_succ])
              | (apply SeqP.split; rfl; rfl; all_goals (intro hc; simp only [hc]; try simp only [beq_iff_eq, decide_eq_true_eq, beq_eq_false_iff_ne, decide_eq_false_iff_not, bne_iff_ne, ne_eq, Bool.not_eq_true', Bool.not_eq_false', Int.not_le, Int.not_lt, bne_eq_false_iff_eq, Bool.or_eq_true, Bool.and_eq_true, Bool.or_eq_false_iff] at hc)))
            apply SeqP.eff
            · rfl
            intro KE hKE
            go_wp2_with fail
            refine (allows_val HP2.out w.heap.size ss _ (HM.out.keep (Below.refl _ _).drew).1.2.2 (fine_play fine_nil _)).mono ?_
            rintro e w4 ⟨rfl, hb⟩
            have hb4 : Below wr.heap.size wr w4 := (Below.refl _ _).drew.trans hb
            refine hKE _ _ (hTP' _ hb4) ?_
            clear hKE KE
            go_wp2_with (first
              | (apply SeqP.skip; rfl; simp only [Act.put, List.setIfInBounds_toArray, List.set_cons_zero, List.set_cons_succ])
              | (apply SeqP.call; rfl; rfl; (intro w2 hw; have hw := hTP _ hw; (skip); go_simp; exact ⟨rfl, rfl⟩); (intro w2 hw; have hw := hTP _ hw; (skip); (first | fail)); simp only [Act.put, List.setIfInBounds_toArray, List.set_cons_zero, List.set_cons_succ])
              | (apply SeqP.pure; rfl; (intro w2 hw; have hw := hTP _ hw; (skip); go_simp; with_reducible rfl); simp only [Act.put, List.setIfInBounds_toArray, List.set_cons_zero, List.set_cons_succ])
              | (apply SeqP.split; rfl; rfl; all_goals (intro hc; simp only [hc]; try simp only [beq_iff_eq, decide_eq_true_eq, beq_eq_false_iff_ne, decide_eq_false_iff_not, bne_iff_ne, ne_eq, Bool.not_eq_true', Bool.not_eq_false', Int.not_le, Int.not_lt, bne_eq_false_iff_eq, Bool.or_eq_true, Bool.and_eq_true, Bool.or_eq_false_iff] at hc)))
            apply SeqP.nil
            refine hKP _ _ (hTP' _ (hb4)) ?_
            clear hKP hTP hTP'
            have HM2 := Lib.hid (HM.out.keep hb4)
            clear HM FB hb hb4 HP2
            go_wp2_with fail
          all_goals
            go_roundg (l.length - (j + 1))
            case measure => have hkk := AA.out; omega
            case rel => exact ⟨j + 1, rfl, by omega, by go_num, HM2.out⟩
        · obtain rfl : j = l.length := by omega
          clear hlt hj
          obtain ⟨w4, rfl⟩ : ∃ z, z = wr := ⟨_, rfl⟩
          by_cases h0 : l.length = 0
          case pos =>
            have h0b : ((l.length : Int) == 0) = true := by rw [h0]; rfl
            clear h0
            go_wp2_with fail
            refine (lives_any _).mono ?_
            rintro r w5 ⟨rfl, hb⟩
            have hB := below_trans HM.out.1.1 hb HM.out.1.1.size
            go_wp2_with fail
            go_ret
            exact ⟨rfl, hB⟩
          have h0b : ((l.length : Int) == 0) = false := by rw [beq_eq_false_iff_ne]; omega
          have hlp : 0 < l.length := by omega
          obtain ⟨K, hK⟩ : ∃ K, n % l.length = K := ⟨_, rfl⟩
          have hKl : K < l.length := by rw [← hK]; exact Nat.mod_lt _ hlp
          have hmod : Int.tmod (n : Int) (l.length : Int) = (K : Int) := by rw [← hK]; rfl
          clear hK h0
          obtain ⟨b1, o1, x, rfl, hx, hb1, FA⟩ := HL.out.at_ hKl
          have hlen := told_len l l.length (Nat.le_refl _)
          obtain ⟨⟨p, b⟩, hpb⟩ : ∃ z, (toldTo l l.length)[K]? = some z := ⟨_, List.getElem?_eq_getElem (by omega)⟩
          have hop : (outsT l l.length)[K]? = some p := by unfold outsT; rw [List.getElem?_map, hpb]; rfl
          have hobl : (outsT l l.length).length = l.length := by unfold outsT; rw [List.length_map, hlen]
          obtain ⟨q2, c2, hv2, hq2', e0⟩ := HM.out.2.2.at_ (j := K) (b := b) (by unfold boolsT; rw [List.getElem?_map, hpb]; rfl)
          rw [List.length_map, hlen] at hv2
          subst hv2
          have HT := Lib.hid (show b = true → Told (playM noLogs l) x p from fun hb => by
            subst hb
            exact told_all hx.out hpb)
          have HO := Lib.hid (And.intro hop hobl)
          clear hpb hlen hop hobl
          have hKi : (K : Int) < (l.length : Int) := by omega
          cases b
          case false =>
            go_wp2_with fail
            refine (lives_any _).mono ?_
            rintro r w5 ⟨rfl, hb⟩
            have hB := below_trans HM.out.1.1 hb HM.out.1.1.size
            go_wp2_with fail
            go_ret
            exact ⟨rfl, hB⟩
          case true =>
            have ht := HT.out rfl
            obtain ⟨p0, p1, p2, p3, p4⟩ := FA _ HM.out.1.1
            have hr := ordOk_in ht.1
            obtain ⟨sg, hsg⟩ : ∃ z, (foldS (playM noLogs l x.stream.toNat)).1 = z := ⟨_, rfl⟩
            have v1 : stateM (playM noLogs l) x.stream = (sg, 0) := by
              unfold stateM
              rw [if_pos (by omega), hsg]
            have v2 := told_again ht
            have HV := Lib.hid (And.intro v1 v2)
            clear HT ht hr hsg v1 v2
            go_wp2_with fail
            refine (state_val HV.out.1 _ ss _ HM.out.1.2.2 (fine_play fine_nil _)).mono ?_
            rintro r w5 ⟨rfl, hb⟩
            have HM5 := Lib.hid (HM.out.keep hb)
            have BX : Blk (w5.alloc (.cells #[.int .i64 0, .bool false, .int .i64 0, .int .i64 0] 40)) w5.heap.size 40 [.int .i64 0, .bool false, .int .i64 0, .int .i64 0] := Blk.new w5 _ _
            have lg5 : w.heap.size < w5.heap.size := HM5.out.1.2.2.lt
            clear hb HM p0 p1 p2 p3 p4
            go_wp2_with ((with_reducible refine at_list ?_); first | (refine wpList_store_own rfl 40 _ _ rfl _ (stv sg) rfl rfl _ _ (BX) state_info rfl (stv_one _) ?_; intro w6 S6 g6))
            have HM6 := Lib.hid (HM5.out.keep (below_new g6))
            have lg6 : w.heap.size < w6.heap.size := HM6.out.1.2.2.lt
            clear BX g6 HM5
            refine (orders_any _ x.stream _ ss w6 HM6.out.1.2.2 (fine_play fine_nil _)).mono ?_
            rintro r w7 ⟨v7, rfl, R7, hb⟩
            have HM7 := Lib.hid (HM6.out.keep hb)
            have HS7 := Lib.hid (And.intro (S6.keep hb) R7)
            obtain ⟨p0, p1, p2, p3, p4⟩ := FA _ HM7.out.1.1
            clear hb S6 R7 HM6
            go_wp2_with fail
            refine (do_val (show (doM (playM noLogs l) x).2 = (p, 0) by rw [HV.out.2]) _ ss _ HM7.out.1.2.2 (fine_play fine_nil _)).mono ?_
            rintro r w8 ⟨ss', slx, rfl, hm, hE, hg⟩
            rw [HV.out.2] at hm
            have HM8 := Lib.hid (HM7.out.do_ hg hm)
            have HS8 := Lib.hid (And.intro (HS7.out.1.grown hg (fun e => by have := Option.some.inj e; omega)) (ORow.far HS7.out.2 hg lg6))
            have HE8 := Lib.hid hE
            have BX : Blk (w8.alloc (.cells #[.int .i64 0, .int .i64 0, .slice none 0 0] 32)) w8.heap.size 32 [.int .i64 0, .int .i64 0, .slice none 0 0] := Blk.new w8 _ _
            clear hm hE hg HM7 HS7 p0 p1 p2 p3 p4
            go_wp2_with ((with_reducible refine at_list ?_); first | (refine wpList_store_own rfl 32 _ _ rfl _ (outv p slx) rfl rfl _ _ (BX) outcome_info rfl (outv_one _ _) ?_; intro w9 S9 g9))
            have hb9 := below_new g9
            have HM9 := Lib.hid (HM8.out.keep hb9)
            have HS9 := Lib.hid (And.intro (HS8.out.1.keep hb9) (And.intro (ORow.keep HS8.out.2 hb9) (And.intro (HE8.out.pure hb9) S9)))
            clear BX g9 hb9 HM8 HS8 HE8 S9
            refine (state_val HV.out.1 _ ss' _ HM9.out.1.2.2 (fine_play fine_nil _)).mono ?_
            rintro r w10 ⟨rfl, hb⟩
            have HM10 := Lib.hid (HM9.out.keep hb)
            have HS10 := Lib.hid (And.intro (HS9.out.1.keep hb) (And.intro (ORow.keep HS9.out.2.1 hb) (And.intro (HS9.out.2.2.1.pure hb) (HS9.out.2.2.2.keep hb))))
            have BX : Blk (w10.alloc (.cells #[.int .i64 0, .bool false, .int .i64 0, .int .i64 0] 40)) w10.heap.size 40 [.int .i64 0, .bool false, .int .i64 0, .int .i64 0] := Blk.new w10 _ _
            clear hb HM9 HS9
            go_wp2_with ((with_reducible refine at_list ?_); first | (refine wpList_store_own rfl 40 _ _ rfl _ (stv sg) rfl rfl _ _ (BX) state_info rfl (stv_one _) ?_; intro w11 S11 g11) | (with_reducible refine cut_at 20 rfl ?_))
            have hb11 := below_new g11
            have HM11 := Lib.hid (HM10.out.keep hb11)
            have HS11 := Lib.hid (And.intro (HS10.out.1.keep hb11) (And.intro (ORow.keep HS10.out.2.1 hb11) (And.intro (HS10.out.2.2.1.pure hb11) (HS10.out.2.2.2.keep hb11))))
            clear BX g11 hb11 HM10 HS10
            obtain ⟨q1, c1, o', sl, hv1, ho', hq1, hq2, hq3, hq4, hE1, d0, d1, d2⟩ := HM11.out.2.1.read (k := K) (by rw [HO.out.2]; omega)
            obtain rfl : o' = p := Option.some.inj (ho'.symm.trans HO.out.1)
            rw [HO.out.2] at hv1
            subst hv1
            have XB := HS11.out.2.2.2
            have SB := HS11.out.1
            have F1 : ∀ w', Below w11.heap.size w11 w' → w'.cell? ⟨w8.heap.size, 0, none⟩ = some (.int .i64 o'.1) ∧ w'.cell? ⟨w8.heap.size, 1, none⟩ = some (.int .i64 o'.2.1) ∧ w'.cell? ⟨w8.heap.size, 2, none⟩ = some (.slice slx.1 slx.2.1 slx.2.2) := fun w' hw =>
              ⟨(XB.keep hw).cell 0, (XB.keep hw).cell 1, (XB.keep hw).cell 2⟩
            have F2 : ∀ w', Below w11.heap.size w11 w' → w'.cell? ⟨q1, K * 3, none⟩ = some (.int .i64 o'.1) ∧ w'.cell? ⟨q1, K * 3 + 1, none⟩ = some (.int .i64 o'.2.1) ∧ w'.cell? ⟨q1, K * 3 + 2, none⟩ = some (.slice sl.1 sl.2.1 sl.2.2) := fun w' hw =>
              ⟨(hw.cell (p := ⟨q1, _, none⟩) hq2).trans d0, (hw.cell (p := ⟨q1, _, none⟩) hq2).trans d1, (hw.cell (p := ⟨q1, _, none⟩) hq2).trans d2⟩
            have F3 : ∀ w', Below w11.heap.size w11 w' → w'.cell? ⟨w5.heap.size, 0, none⟩ = some (.int .i64 sg.tag) ∧ w'.cell? ⟨w5.heap.size, 1, none⟩ = some (.bool sg.closed) ∧ w'.cell? ⟨w5.heap.size, 2, none⟩ = some (.int .i64 sg.sum) ∧ w'.cell? ⟨w5.heap.size, 3, none⟩ = some (.int .i64 sg.ver) := fun w' hw =>
              ⟨(SB.keep hw).cell 0, (SB.keep hw).cell 1, (SB.keep hw).cell 2, (SB.keep hw).cell 3⟩
            have F4 : ∀ w', Below w11.heap.size w11 w' → w'.cell? ⟨w10.heap.size, 0, none⟩ = some (.int .i64 sg.tag) ∧ w'.cell? ⟨w10.heap.size, 1, none⟩ = some (.bool sg.closed) ∧ w'.cell? ⟨w10.heap.size, 2, none⟩ = some (.int .i64 sg.sum) ∧ w'.cell? ⟨w10.heap.size, 3, none⟩ = some (.int .i64 sg.ver) := fun w' hw =>
              ⟨(S11.keep hw).cell 0, (S11.keep hw).cell 1, (S11.keep hw).cell 2, (S11.keep hw).cell 3⟩
            have HEE := Lib.hid (And.intro HS11.out.2.2.1 hE1)
            clear XB SB S11 ho' hq3 hq4 hE1 d0 d1 d2 hq1
            refine wp_region_p ([(0, true), (1, true), (2, true), (3, true), (4, true), (5, true), (6, true), (7, true), (8, false), (9, true), (10, true), (11, true), (12, true), (13, true), (14, true), (15, true), (16, true), (17, true), (18, true), (19, false), (20, false), (21, true), (22, true), (23, false), (24, true), (25, true)]) (fun w' => Below w11.heap.size w11 w') (by kernel_rfl) rfl (by kernel_rfl) (by kernel_rfl) ((Below.refl _ _).drew) rfl ?_
            intro KP RP TP hKP hTP hTP'
            simp only [pick, nth]
            go_wp2_with (first
              | (apply SeqP.skip; rfl; simp only [Act.put, List.setIfInBounds_toArray, List.set_cons_zero, List.set_cons_succ])
              | (apply SeqP.aggbin; (with_reducible rfl); (with_reducible exact Try.eqGuardType40); rfl; rfl; rfl; (exact (fun w => eql_st w sg)); simp only [Act.put, List.setIfInBounds_toArray, List.set_cons_zero, List.set_cons_succ])
              | (apply SeqP.call; rfl; rfl; (intro w2 hw; have hw := hTP _ hw; ((obtain ⟨x0, x1, x2⟩ := F1 _ hw; obtain ⟨y0, y1, y2⟩ := F2 _ hw; obtain ⟨s0, s1, s2, s3⟩ := F3 _ hw; obtain ⟨t0, t1, t2, t3⟩ := F4 _ hw)); go_simp; exact ⟨rfl, rfl⟩); (intro w2 hw; have hw := hTP _ hw; ((obtain ⟨x0, x1, x2⟩ := F1 _ hw; obtain ⟨y0, y1, y2⟩ := F2 _ hw; obtain ⟨s0, s1, s2, s3⟩ := F3 _ hw; obtain ⟨t0, t1, t2, t3⟩ := F4 _ hw)); (first | fail)); simp only [Act.put, List.setIfInBounds_toArray, List.set_cons_zero, List.set_cons_succ])
              | (apply SeqP.pure; rfl; (intro w2 hw; have hw := hTP _ hw; ((obtain ⟨x0, x1, x2⟩ := F1 _ hw; obtain ⟨y0, y1, y2⟩ := F2 _ hw; obtain ⟨s0, s1, s2, s3⟩ := F3 _ hw; obtain ⟨t0, t1, t2, t3⟩ := F4 _ hw)); go_simp; with_reducible rfl); simp only [Act.put, List.setIfInBounds_toArray, List.set_cons_zero, List.set_cons_succ])
              | (apply SeqP.split; rfl; rfl; all_goals (intro hc; simp only [hc]; try simp only [beq_iff_eq, decide_eq_true_eq, beq_eq_false_iff_ne, decide_eq_false_iff_not, bne_iff_ne, ne_eq, Bool.not_eq_true', Bool.not_eq_false', Int.not_le, Int.not_lt, bne_eq_false_iff_eq, Bool.or_eq_true, Bool.and_eq_true, Bool.or_eq_false_iff] at hc)))
            have hd : Below w11.heap.size w11 w11.drew := (Below.refl _ _).drew
            apply SeqP.eff
            · rfl
            intro KE hKE
            go_wp2_with fail
            refine (same_out o' slx sl w11.drew (HEE.out.1.pure hd).read (HEE.out.2.pure hd).read).mono ?_
            rintro e w12 ⟨rfl, hb⟩
            have hb12 := hd.trans hb
            refine hKE _ _ (hTP' _ hb12) ?_
            clear hKE KE hb hd
            go_wp2_with (first
              | (apply SeqP.skip; rfl; simp only [Act.put, List.setIfInBounds_toArray, List.set_cons_zero, List.set_cons_succ])
              | (apply SeqP.aggbin; (with_reducible rfl); (with_reducible exact Try.eqGuardType40); rfl; rfl; rfl; (exact (fun w => eql_st w sg)); simp only [Act.put, List.setIfInBounds_toArray, List.set_cons_zero, List.set_cons_succ])
              | (apply SeqP.call; rfl; rfl; (intro w2 hw; have hw := hTP _ hw; ((obtain ⟨x0, x1, x2⟩ := F1 _ hw; obtain ⟨y0, y1, y2⟩ := F2 _ hw; obtain ⟨s0, s1, s2, s3⟩ := F3 _ hw; obtain ⟨t0, t1, t2, t3⟩ := F4 _ hw)); go_simp; exact ⟨rfl, rfl⟩); (intro w2 hw; have hw := hTP _ hw; ((obtain ⟨x0, x1, x2⟩ := F1 _ hw; obtain ⟨y0, y1, y2⟩ := F2 _ hw; obtain ⟨s0, s1, s2, s3⟩ := F3 _ hw; obtain ⟨t0, t1, t2, t3⟩ := F4 _ hw)); (first | fail)); simp only [Act.put, List.setIfInBounds_toArray, List.set_cons_zero, List.set_cons_succ])
              | (apply SeqP.pure; rfl; (intro w2 hw; have hw := hTP _ hw; ((obtain ⟨x0, x1, x2⟩ := F1 _ hw; obtain ⟨y0, y1, y2⟩ := F2 _ hw; obtain ⟨s0, s1, s2, s3⟩ := F3 _ hw; obtain ⟨t0, t1, t2, t3⟩ := F4 _ hw)); go_simp; with_reducible rfl); simp only [Act.put, List.setIfInBounds_toArray, List.set_cons_zero, List.set_cons_succ])
              | (apply SeqP.split; rfl; rfl; all_goals (intro hc; simp only [hc]; try simp only [beq_iff_eq, decide_eq_true_eq, beq_eq_false_iff_ne, decide_eq_false_iff_not, bne_iff_ne, ne_eq, Bool.not_eq_true', Bool.not_eq_false', Int.not_le, Int.not_lt, bne_eq_false_iff_eq, Bool.or_eq_true, Bool.and_eq_true, Bool.or_eq_false_iff] at hc)))
            have HM12 := Lib.hid (HM11.out.keep hb12)
            have HR12 := Lib.hid (ORow.keep HS11.out.2.1 hb12)
            apply SeqP.eff
            · rfl
            intro KE hKE
            go_wp2_with fail
            refine (orders_any (playM noLogs l) x.stream w.heap.size ss' w12 HM12.out.1.2.2 (fine_play fine_nil _)).mono ?_
            rintro e w13 ⟨v13, rfl, R13, hb⟩
            obtain ⟨A1, k1, rfl, _, _, O1⟩ := (ORow.keep HR12.out hb).form
            obtain ⟨A2, k2, rfl, k3, k4, O2⟩ := R13.form
            have HOO := Lib.hid (And.intro O1 O2)
            have hb13 := below_trans hb12 hb hb12.size
            refine hKE _ _ (hTP' _ hb13) ?_
            clear hKE KE hb R13 O1 O2
            go_wp2_with (first
              | (apply SeqP.skip; rfl; simp only [Act.put, List.setIfInBounds_toArray, List.set_cons_zero, List.set_cons_succ])
              | (apply SeqP.call; rfl; rfl; (intro w2 hw; have hw := hTP _ hw; (skip); go_simp; exact ⟨rfl, rfl⟩); (intro w2 hw; have hw := hTP _ hw; (skip); (first | fail)); simp only [Act.put, List.setIfInBounds_toArray, List.set_cons_zero, List.set_cons_succ])
              | (apply SeqP.pure; rfl; (intro w2 hw; have hw := hTP _ hw; (skip); go_simp; with_reducible rfl); simp only [Act.put, List.setIfInBounds_toArray, List.set_cons_zero, List.set_cons_succ])
              | (apply SeqP.split; rfl; rfl; all_goals (intro hc; simp only [hc]; try simp only [beq_iff_eq, decide_eq_true_eq, beq_eq_false_iff_ne, decide_eq_false_iff_not, bne_iff_ne, ne_eq, Bool.not_eq_true', Bool.not_eq_false', Int.not_le, Int.not_lt, bne_eq_false_iff_eq, Bool.or_eq_true, Bool.and_eq_true, Bool.or_eq_false_iff] at hc)))
            apply SeqP.eff
            · rfl
            intro KE hKE
            go_wp2_with fail
            refine (sameords_any (ordersM (playM noLogs l) x.stream) _ _ _ _ w13 HOO.out.1 HOO.out.2 (by omega)).mono ?_
            rintro e w14 ⟨rfl, hb⟩
            have hb14 := below_trans hb13 hb hb13.size
            refine hKE _ _ (hTP' _ hb14) ?_
            clear hKE KE hb
            go_wp2_with (first
              | (apply SeqP.skip; rfl; simp only [Act.put, List.setIfInBounds_toArray, List.set_cons_zero, List.set_cons_succ])
              | (apply SeqP.call; rfl; rfl; (intro w2 hw; have hw := hTP _ hw; (skip); go_simp; exact ⟨rfl, rfl⟩); (intro w2 hw; have hw := hTP _ hw; (skip); (first | fail)); simp only [Act.put, List.setIfInBounds_toArray, List.set_cons_zero, List.set_cons_succ])
              | (apply SeqP.pure; rfl; (intro w2 hw; have hw := hTP _ hw; (skip); go_simp; with_reducible rfl); simp only [Act.put, List.setIfInBounds_toArray, List.set_cons_zero, List.set_cons_succ])
              | (apply SeqP.split; rfl; rfl; all_goals (intro hc; simp only [hc]; try simp only [beq_iff_eq, decide_eq_true_eq, beq_eq_false_iff_ne, decide_eq_false_iff_not, bne_iff_ne, ne_eq, Bool.not_eq_true', Bool.not_eq_false', Int.not_le, Int.not_lt, bne_eq_false_iff_eq, Bool.or_eq_true, Bool.and_eq_true, Bool.or_eq_false_iff] at hc)))
            apply SeqP.eff
            · rfl
            intro KE hKE
            go_wp2_with fail
            refine (lives_any w14).mono ?_
            rintro e w15 ⟨rfl, hb⟩
            have hb15 := below_trans hb14 hb hb14.size
            refine hKE _ _ (hTP' _ hb15) ?_
            clear hKE KE hb
            go_wp2_with (first
              | (apply SeqP.skip; rfl; simp only [Act.put, List.setIfInBounds_toArray, List.set_cons_zero, List.set_cons_succ])
              | (apply SeqP.call; rfl; rfl; (intro w2 hw; have hw := hTP _ hw; (skip); go_simp; exact ⟨rfl, rfl⟩); (intro w2 hw; have hw := hTP _ hw; (skip); (first | fail)); simp only [Act.put, List.setIfInBounds_toArray, List.set_cons_zero, List.set_cons_succ])
              | (apply SeqP.pure; rfl; (intro w2 hw; have hw := hTP _ hw; (skip); go_simp; with_reducible rfl); simp only [Act.put, List.setIfInBounds_toArray, List.set_cons_zero, List.set_cons_succ])
              | (apply SeqP.split; rfl; rfl; all_goals (intro hc; simp only [hc]; try simp only [beq_iff_eq, decide_eq_true_eq, beq_eq_false_iff_ne, decide_eq_false_iff_not, bne_iff_ne, ne_eq, Bool.not_eq_true', Bool.not_eq_false', Int.not_le, Int.not_lt, bne_eq_false_iff_eq, Bool.or_eq_true, Bool.and_eq_true, Bool.or_eq_false_iff] at hc)))
            apply SeqP.nil
            refine hKP _ _ (hTP' _ (hb15)) ?_
            clear hKP hTP hTP'
            have hB := below_trans HM11.out.1.1 hb15 HM11.out.1.1.size
            go_wp2_with fail
            go_ret
            exact ⟨rfl, hB⟩
end Go.Proofs.Ytlineikeafepcaa
