/-
  The walk over the document's 'At'.
-/
import Derived.Test.YtelkibmiinjokaaVAt
import Derived.Test.YtelkibmiinjokaaTotIx
import Derived.Test.YtelkibmiinjokaaRef12V
import Derived.Test.YtelkibmiinjokaaSeqZ
set_option linter.unusedSimpArgs false
set_option linter.unusedVariables false
set_option maxRecDepth 100000
namespace Go.Proofs.Ytelkibmiinjokaa
open Go Go.RowKit Go.Sq Go.Wd Go.Arch

set_option maxHeartbeats 4000000 in
theorem rat_off (l : List Itm) (A : Option Addr) (c : Nat) (k : Int) (w : World) (hk : k < 0 ∨ (l.length : Int) < k) :
    Calls Try.prog 32 #[.slice A l.length c, .int .i64 k] w fun e w' => e = .returned (.tuple #[.agg (totv tot0).toArray, .int .i64 2]) ∧ Below w.heap.size w w' := by
  have HZ : Blk (w.alloc (.cells (totv tot0).toArray 51)) w.heap.size 51 (totv tot0) := Blk.new w _ _
  have hb : Below w.heap.size w (w.alloc (.cells (totv tot0).toArray 51)) := (Below.refl _ _).alloc (Nat.le_refl _) _
  have HH := Lib.hid (And.intro HZ hb)
  clear HZ hb
  by_cases h0 : k < 0
  case' pos => clear hk
  case' neg =>
    have h4 : (l.length : Int) < k := by omega
    clear hk
  all_goals
    go_enter Try.func32, Try.ntmps32
    go_wp2_with ((with_reducible refine at_list ?_); first | (refine wpList_store_blk rfl 51 _ _ rfl _ (totv tot0) rfl rfl _ _ (HH.out.1) tot_info rfl (totv_one _) ?_; intro w8 B8 hb8 hk8))
    have hb : Below w.heap.size w w8 := HH.out.2.trans (hb8 _ (by omega))
    apply ret_of
    · exact results_blk_tmp rfl _ _ _ _ _ _ rfl (B8) Try.underlying51 rfl tot_info _ rfl
    · exact ⟨rfl, rfl, hb⟩

set_option maxHeartbeats 8000000 in
theorem rat_in (l : List Itm) (A : Option Addr) (c k : Nat) (w : World) (hi : Items w w.heap.size A l) (hk : k ≤ l.length) (hc : l.length ≤ c) (hc2 : c ≤ 9223372036854775807) :
    Calls Try.prog 32 #[.slice A l.length c, .int .i64 k] w fun e w' => e = .returned (.tuple #[.agg (totv (totR (refT (l.take k))).1).toArray, .int .i64 (totR (refT (l.take k))).2]) ∧ Below w.heap.size w w' := by
  have hw := Below.refl w.heap.size w
  have HE := Lib.hid hi
  clear hi
  have H0 : Below w.heap.size w ((w.alloc (.cells (totv tot0).toArray 51)).alloc (.cells (totv tot0).toArray 51)) ∧ Blk ((w.alloc (.cells (totv tot0).toArray 51)).alloc (.cells (totv tot0).toArray 51)) w.heap.size 51 (totv tot0) ∧
      Blk ((w.alloc (.cells (totv tot0).toArray 51)).alloc (.cells (totv tot0).toArray 51)) (w.heap.size + 1) 51 (totv tot0) :=
    ⟨((Below.refl _ _).alloc (Nat.le_refl _) _).alloc (by simp) _, (Blk.new w _ _).alloc _, Blk.newAt _ _ _ (by simp)⟩
  have HH := Lib.hid H0
  clear H0
  have g1 : decide (l.length < k) = false := by simpa using hk
  have g2 : decide ((k : Int) < 0) = false := by simp
  go_enter Try.func32, Try.ntmps32
  go_wp2_with fail
  go_loopg [7] k (fun q i wr => ∃ (j : Nat), q = k - j ∧ j ≤ k ∧ i = .int .i64 j ∧ (l.take j).all okI = true ∧ Below w.heap.size w wr ∧ Blk wr w.heap.size 51 (totv tot0) ∧ Blk wr (w.heap.size + 1) 51 (totv (cntT (l.take j))))
  case atStart => exact ⟨0, rfl, by omega, rfl, rfl, HH.out⟩
  case round =>
    obtain ⟨j, hq, hj, rfl, ht, hB, B0, B1⟩ := hrel
    have AA : Aside (gk = k - j ∧ (l.take j).all okI = true) := ⟨hq, ht⟩
    clear hq ht
    by_cases hlt : j < k
    · obtain ⟨b1, o1, x, rfl, hx, FA, HV⟩ := HE.out.at_ (show j < l.length by omega)
      obtain ⟨q0, q1, q2, q3, q4, q5, q6, q7, q8, q9⟩ := FA _ hB
      have hjl : j < l.length := by omega
      clear q1 q2 q3 q4 q5 q6 q8 q9 FA HV
      by_cases hok : okI x = true
      · have HT := Lib.hid (And.intro (all_take hx.out AA.out.2 hok) (cntT_take hx.out))
        obtain ⟨h0, h4, hcd⟩ := (okI_iff x).1 hok
        clear hx hok
        have n0 : ¬ x.stream < 0 := by omega
        have n4 : ¬ 4 ≤ x.stream := by omega
        have fr := B1.frozen
        have l1 := B1.lt
        have b0 := B1.cell 16
        have b1 := B1.cell 17
        have b2 := B1.cell 18
        simp [totv, cntT] at b0 b1 b2
        rcases hcd with hcd | hcd | hcd
        all_goals
          rw [hcd] at q7 HT
          go_wp2_with fail
          go_roundg (k - (j + 1))
          case measure => have hkk := AA.out.1; omega
          case rel =>
            refine ⟨j + 1, rfl, by omega, by go_num, HT.out.1, hB.setCell (by simp) _, B0.far (by simp) _, ?_⟩
            rw [HT.out.2]
            first | exact (B1.set 16 _).of_eq rfl | exact (B1.set 17 _).of_eq rfl | exact (B1.set 18 _).of_eq rfl
      · have hN : refT (l.take k) = none := refT_none (i := j) (x := x) (by rw [List.getElem?_take, if_pos hlt]; exact hx.out) (by simpa using hok)
        have HN := Lib.hid hN
        have hno : ¬ (0 ≤ x.stream ∧ x.stream < 4 ∧ (x.code = 1 ∨ x.code = 2 ∨ x.code = 3)) := fun h => hok ((okI_iff x).2 h)
        clear hN hok hx
        by_cases n0 : x.stream < 0
        case' pos => clear hno
        case' neg =>
          by_cases n4 : 4 ≤ x.stream
          case' pos => clear hno
          case' neg =>
            have d1 : (x.code != 1) = true := by rw [bne_iff_ne]; intro h; exact hno ⟨by omega, by omega, .inl h⟩
            have d2 : (x.code != 2) = true := by rw [bne_iff_ne]; intro h; exact hno ⟨by omega, by omega, .inr (.inl h)⟩
            have d3 : (x.code != 3) = true := by rw [bne_iff_ne]; intro h; exact hno ⟨by omega, by omega, .inr (.inr h)⟩
            have e1 : ¬ x.code = 1 := by intro h; exact hno ⟨by omega, by omega, .inl h⟩
            have e2 : ¬ x.code = 2 := by intro h; exact hno ⟨by omega, by omega, .inr (.inl h)⟩
            have e3 : ¬ x.code = 3 := by intro h; exact hno ⟨by omega, by omega, .inr (.inr h)⟩
            clear hno
        all_goals
          go_wp2_with ((with_reducible refine at_list ?_); first | (refine wpList_store_blk rfl 51 _ _ rfl _ (totv tot0) rfl rfl _ _ (B0) tot_info rfl (totv_one _) ?_; intro w8 B8 hb8 hk8))
          have hb : Below w.heap.size w w8 := hB.trans (hb8 _ (by omega))
          apply ret_of
          · exact results_blk_tmp rfl _ _ _ _ _ _ rfl (B8) Try.underlying51 rfl tot_info _ rfl
          · exact ⟨rfl, by rw [HN.out]; rfl, hb⟩
    · obtain rfl : j = k := by omega
      have HA := Lib.hid AA.out.2
      clear AA hlt
      rw [← outT_zero] at B1
      go_wp2_with fail
      go_loopg [9] 4 (fun q i wr => ∃ (s : Nat), q = 4 - s ∧ s ≤ 4 ∧ i = .int .i64 s ∧ Below w.heap.size w wr ∧ Blk wr w.heap.size 51 (totv tot0) ∧ Blk wr (w.heap.size + 1) 51 (totv (outT (l.take j) s)))
      case atStart => exact ⟨0, rfl, by omega, rfl, hB, B0, B1⟩
      case round =>
        clear hB B0 B1
        obtain ⟨s, hq, hs, rfl, hB, B0, B1⟩ := hrel
        have AA : Aside (gk = 4 - s) := hq
        clear hq
        by_cases hs4 : s < 4
        · have hs5 : (s : Int) < 4 := by omega
          go_wp2_with fail
          obtain ⟨wo, rfl⟩ : ∃ z, z = wr := ⟨_, rfl⟩
          obtain ⟨go, rfl⟩ : ∃ z, z = gk := ⟨_, rfl⟩
          go_loopg [10] j (fun q i wr => ∃ (i' : Nat), q = j - i' ∧ i' ≤ j ∧ i = .int .i64 i' ∧ Below w.heap.size w wr ∧ Blk wr w.heap.size 51 (totv tot0) ∧ Blk wr (w.heap.size + 1) 51 (totv ((outT (l.take j) s).put (stOf s (l.take i')) s)))
          case atStart => exact ⟨0, rfl, by omega, rfl, hB, B0, by rw [List.take_zero, outT_start _ hs4]; exact B1⟩
          case round =>
            clear hB B0 B1
            obtain ⟨i, hq, hi, rfl, hB, B0, B1⟩ := hrel
            have A2 : Aside (gk = j - i) := hq
            clear hq
            by_cases hij : i < j
            · obtain ⟨b1, o1, x, rfl, hx, FA, HV⟩ := HE.out.at_ (show i < l.length by omega)
              have hil : i < l.length := by omega
              have HS := Lib.hid (stOf_take hx.out s)
              clear hx
              go_wp2_with fail
              obtain ⟨wm, rfl⟩ : ∃ z, z = wr := ⟨_, rfl⟩
              obtain ⟨gm, rfl⟩ : ∃ z, z = gk := ⟨_, rfl⟩
              go_loopg [11] x.evs.length (fun q iv wr => ∃ (n : Nat), q = x.evs.length - n ∧ n ≤ x.evs.length ∧ iv = .int .i64 n ∧ (0 < n → x.stream = s) ∧ Below w.heap.size w wr ∧ Blk wr w.heap.size 51 (totv tot0) ∧ Blk wr (w.heap.size + 1) 51 (totv ((outT (l.take j) s).put (foldEv (stOf s (l.take i)) (x.evs.take n)) s)))
              case atStart => exact ⟨0, rfl, by omega, rfl, fun h => absurd h (by omega), hB, B0, B1⟩
              case round =>
                clear hB B0 B1
                obtain ⟨n, hq, hn, rfl, hns, hB, B0, B1⟩ := hrel
                have A3 : Aside (gk = x.evs.length - n) := hq
                clear hq
                obtain ⟨q0, q1, q2, q3, q4, q5, q6, q7, q8, q9⟩ := FA _ hB
                rw [HV.out.1] at q9
                have v2 := HV.out.2.1
                have v3 := HV.out.2.2.1
                clear q1 q2 q3 q4 q5 q6 q7 q8
                by_cases hst : x.stream = s
                · have hst2 : (x.stream == (s : Int)) = true := by rw [beq_iff_eq]; exact hst
                  have HS2 : Hid (stOf s (l.take (i + 1)) = foldEv (stOf s (l.take i)) x.evs) := Lib.hid (by rw [HS.out, if_pos hst])
                  have HST := Lib.hid hst
                  clear hst hns
                  by_cases hnl : n < x.evs.length
                  · obtain ⟨b2, o2, ev, hA, hev, FE⟩ := HV.out.at_ hnl
                    have hvc : n ≤ x.sl.2.2 := by omega
                    rw [hA] at q9
                    have HF := Lib.hid (foldEv_snoc (s := stOf s (l.take i)) hev.out)
                    clear hev
                    have l1 := B1.lt
                    have T0 := get_put (outT (l.take j) s) hs4 (foldEv (stOf s (l.take i)) (x.evs.take n))
                    have t0 := totv_st ((outT (l.take j) s).put (foldEv (stOf s (l.take i)) (x.evs.take n)) s) hs4 0 (by omega)
                    have t1 := totv_st ((outT (l.take j) s).put (foldEv (stOf s (l.take i)) (x.evs.take n)) s) hs4 1 (by omega)
                    have t2 := totv_st ((outT (l.take j) s).put (foldEv (stOf s (l.take i)) (x.evs.take n)) s) hs4 2 (by omega)
                    have t3 := totv_st ((outT (l.take j) s).put (foldEv (stOf s (l.take i)) (x.evs.take n)) s) hs4 3 (by omega)
                    rw [T0] at t0 t1 t2 t3
                    clear T0
                    have hcs : ∀ w', Blk w' (w.heap.size + 1) 51 (totv ((outT (l.take j) s).put (foldEv (stOf s (l.take i)) (x.evs.take n)) s)) →
                      w'.cell? ⟨w.heap.size + 1, s * 4, none⟩ = some (.int .i64 (foldEv (stOf s (l.take i)) (x.evs.take n)).tag) ∧ w'.cell? ⟨w.heap.size + 1, s * 4 + 1, none⟩ = some (.bool (foldEv (stOf s (l.take i)) (x.evs.take n)).closed) ∧
                      w'.cell? ⟨w.heap.size + 1, s * 4 + 2, none⟩ = some (.int .i64 (foldEv (stOf s (l.take i)) (x.evs.take n)).sum) ∧ w'.cell? ⟨w.heap.size + 1, s * 4 + 3, none⟩ = some (.int .i64 (foldEv (stOf s (l.take i)) (x.evs.take n)).ver) :=
                      fun w' h => ⟨(h.cell (s * 4)).trans t0, (h.cell (s * 4 + 1)).trans t1, (h.cell (s * 4 + 2)).trans t2, (h.cell (s * 4 + 3)).trans t3⟩
                    clear t0 t1 t2 t3
                    have hwz := hB.size
                    have HB0 := Lib.hid B0
                    clear B0
                    go_wp2_with fail
                    refine wp_region_p [(0, true), (1, true), (2, true), (3, true), (5, true), (6, true), (7, true), (8, true), (9, true), (10, true), (11, true), (12, true), (13, true), (15, true), (4, false), (14, false), (16, true), (17, false)] (fun w' => Below w.heap.size w w') (by kernel_rfl) rfl (by kernel_rfl) (by kernel_rfl) (hB.drew) rfl ?_
                    intro KP RP TP hKP hTP hTP'
                    simp only [pick, nth]
                    go_wp2_with (first
                      | (apply SeqP.skip; rfl; simp only [Act.put, List.setIfInBounds_toArray, List.set_cons_zero, List.set_cons_succ])
                      | (apply SeqP.call; rfl; rfl; (intro w2 hw; have hw := hTP _ hw; ((obtain ⟨p0, p1, p2, p3, p4, p5, p6, p7, p8, p9⟩ := FA _ hw; rw [HV.out.1, hA] at p9; obtain ⟨e0, e1⟩ := FE _ hw)); go_simp; exact ⟨rfl, rfl⟩); (intro w2 hw; have hw := hTP _ hw; ((obtain ⟨p0, p1, p2, p3, p4, p5, p6, p7, p8, p9⟩ := FA _ hw; rw [HV.out.1, hA] at p9; obtain ⟨e0, e1⟩ := FE _ hw)); (first | fail)); simp only [Act.put, List.setIfInBounds_toArray, List.set_cons_zero, List.set_cons_succ])
                      | (apply SeqP.pure; rfl; (intro w2 hw; have hw := hTP _ hw; ((obtain ⟨p0, p1, p2, p3, p4, p5, p6, p7, p8, p9⟩ := FA _ hw; rw [HV.out.1, hA] at p9; obtain ⟨e0, e1⟩ := FE _ hw)); go_simp; with_reducible rfl); simp only [Act.put, List.setIfInBounds_toArray, List.set_cons_zero, List.set_cons_succ])
                      | (apply SeqP.split; rfl; rfl; all_goals (intro hc; simp only [hc]; try simp only [beq_iff_eq, decide_eq_true_eq, beq_eq_false_iff_ne, decide_eq_false_iff_not, bne_iff_ne, ne_eq, Bool.not_eq_true', Bool.not_eq_false', Int.not_le, Int.not_lt, bne_eq_false_iff_eq, Bool.or_eq_true, Bool.and_eq_true, Bool.or_eq_false_iff] at hc)))
                    obtain ⟨c0, c1, c2, c3⟩ := hcs _ B1.drew
                    apply SeqP.eff
                    · rfl
                    intro KE hKE
                    go_wp2_with fail
                    refine hKE _ _ (hTP' _ hB.drew) ?_
                    clear hKE KE
                    apply SeqP.eff
                    · rfl
                    intro KE hKE
                    go_wp2_with fail
                    refine (ref_apply_any _ _ _ _ _ _ _).mono ?_
                    rintro e w1 ⟨rfl, hb⟩
                    have hB1 := below_trans hB.drew hb hB.size
                    have C1 := B1.drew.keep hb
                    have C0 := HB0.out.drew.keep hb
                    refine hKE _ _ (hTP' _ hB1) ?_
                    clear hKE KE hB B1 HB0 hb c0 c1 c2 c3
                    go_wp2_with (first
                      | (apply SeqP.skip; rfl; simp only [Act.put, List.setIfInBounds_toArray, List.set_cons_zero, List.set_cons_succ])
                      | (apply SeqP.call; rfl; rfl; (intro w2 hw; have hw := hTP _ hw; (skip); go_simp; exact ⟨rfl, rfl⟩); (intro w2 hw; have hw := hTP _ hw; (skip); (first | fail)); simp only [Act.put, List.setIfInBounds_toArray, List.set_cons_zero, List.set_cons_succ])
                      | (apply SeqP.pure; rfl; (intro w2 hw; have hw := hTP _ hw; (skip); go_simp; with_reducible rfl); simp only [Act.put, List.setIfInBounds_toArray, List.set_cons_zero, List.set_cons_succ])
                      | (apply SeqP.split; rfl; rfl; all_goals (intro hc; simp only [hc]; try simp only [beq_iff_eq, decide_eq_true_eq, beq_eq_false_iff_ne, decide_eq_false_iff_not, bne_iff_ne, ne_eq, Bool.not_eq_true', Bool.not_eq_false', Int.not_le, Int.not_lt, bne_eq_false_iff_eq, Bool.or_eq_true, Bool.and_eq_true, Bool.or_eq_false_iff] at hc)))
                    obtain ⟨c0, c1, c2, c3⟩ := hcs _ C1
                    have fr := C1.frozen
                    have l2 := C1.lt
                    apply SeqP.eff
                    · rfl
                    intro KE hKE
                    go_wp2_with fail
                    refine hKE _ _ (hTP' _ ((((hB1.setCell (by simp) _).setCell (by simp) _).setCell (by simp) _).setCell (by simp) _)) ?_
                    clear hKE KE
                    apply SeqP.nil
                    refine hKP _ _ (hTP' _ ((((hB1.setCell (by simp) _).setCell (by simp) _).setCell (by simp) _).setCell (by simp) _)) ?_
                    clear hKP hTP hTP'
                    go_wp2_with fail
                    go_roundg (x.evs.length - (n + 1))
                    case measure => have hkk := A3.out; omega
                    case rel =>
                      refine ⟨n + 1, rfl, by omega, by go_num, fun _ => HST.out, ?_, ?_, ?_⟩
                      · exact (((hB1.setCell (by simp) _).setCell (by simp) _).setCell (by simp) _).setCell (by simp) _
                      · exact (((C0.far (by simp) _).far (by simp) _).far (by simp) _).far (by simp) _
                      · rw [HF.out]
                        exact ((((C1.set (s * 4) _).set (s * 4 + 1) _).set (s * 4 + 2) _).set (s * 4 + 3) _).of_eq ((totv_put _ hs4 (applyS (foldEv (stOf s (l.take i)) (x.evs.take n)) ⟨ev.1, ev.2⟩)).trans (congrArg totv (put_put _ hs4 _ _)))
                  · obtain rfl : n = x.evs.length := by omega
                    rw [List.take_length] at B1
                    go_wp2_with fail
                    go_roundg (j - (i + 1))
                    case measure => have hkk := A2.out; omega
                    case rel =>
                      refine ⟨i + 1, rfl, by omega, by go_num, hB, B0, ?_⟩
                      rw [HS2.out]
                      exact B1
                · obtain rfl : n = 0 := by
                    rcases Nat.eq_zero_or_pos n with h | h
                    · exact h
                    · exact absurd (hns h) hst
                  have hst2 : (x.stream == (s : Int)) = false := by rw [beq_eq_false_iff_ne]; exact hst
                  have HS2 : Hid (stOf s (l.take (i + 1)) = stOf s (l.take i)) := Lib.hid (by rw [HS.out, if_neg hst])
                  clear hst hns
                  rw [List.take_zero] at B1
                  go_wp2_with fail
                  go_roundg (j - (i + 1))
                  case measure => have hkk := A2.out; omega
                  case rel =>
                    refine ⟨i + 1, rfl, by omega, by go_num, hB, B0, ?_⟩
                    rw [HS2.out]
                    exact B1
            · obtain rfl : i = j := by omega
              have HBB := Lib.hid (And.intro hB (And.intro B0 B1))
              have T0 := get_put (outT (l.take i) s) hs4 (stOf s (l.take i))
              have t2 := totv_st ((outT (l.take i) s).put (stOf s (l.take i)) s) hs4 2 (by omega)
              rw [T0] at t2
              have hcs : ∀ w', Blk w' (w.heap.size + 1) 51 (totv ((outT (l.take i) s).put (stOf s (l.take i)) s)) →
                w'.cell? ⟨w.heap.size + 1, s * 4 + 2, none⟩ = some (.int .i64 (stOf s (l.take i)).sum) ∧ w'.cell? ⟨w.heap.size + 1, 19, none⟩ = some (.int .i64 (outT (l.take i) s).sum) :=
                fun w' h => ⟨(h.cell (s * 4 + 2)).trans t2, by rw [h.cell 19, ← put_sum (outT (l.take i) s) (stOf s (l.take i)) hs4]; rfl⟩
              have fr := B1.frozen
              have l2 := B1.lt
              clear t2 T0 hB B0
              go_wp2_with fail
              refine wp_region_z [(0, true), (1, true), (2, true), (3, true), (4, true), (5, true), (6, true), (7, true), (8, true)] 9 (fun w' => Blk w' (w.heap.size + 1) 51 (totv ((outT (l.take i) s).put (stOf s (l.take i)) s))) (by kernel_rfl) (by kernel_rfl) (by kernel_rfl) (B1.drew) rfl ?_
              intro KP RP TP hKP hTP hTP'
              simp only [pick, nth]
              go_wp2_with (first
                | (apply SeqP.skip; rfl; simp only [Act.put, List.setIfInBounds_toArray, List.set_cons_zero, List.set_cons_succ])
                | (apply SeqP.call; rfl; rfl; (intro w2 hw; have hw := hTP _ hw; ((obtain ⟨c0, c1⟩ := hcs _ hw)); go_simp; exact ⟨rfl, rfl⟩); (intro w2 hw; have hw := hTP _ hw; ((obtain ⟨c0, c1⟩ := hcs _ hw)); (first | fail)); simp only [Act.put, List.setIfInBounds_toArray, List.set_cons_zero, List.set_cons_succ])
                | (apply SeqP.pure; rfl; (intro w2 hw; have hw := hTP _ hw; ((obtain ⟨c0, c1⟩ := hcs _ hw)); go_simp; with_reducible rfl); simp only [Act.put, List.setIfInBounds_toArray, List.set_cons_zero, List.set_cons_succ])
                | (apply SeqP.split; rfl; rfl; all_goals (intro hc; simp only [hc]; try simp only [beq_iff_eq, decide_eq_true_eq, beq_eq_false_iff_ne, decide_eq_false_iff_not, bne_iff_ne, ne_eq, Bool.not_eq_true', Bool.not_eq_false', Int.not_le, Int.not_lt, bne_eq_false_iff_eq, Bool.or_eq_true, Bool.and_eq_true, Bool.or_eq_false_iff] at hc)))
              apply SeqP.nil
              apply LastZ.eff
              · rfl
              obtain ⟨c0, c1⟩ := hcs _ B1.drew
              go_wp2_with fail
              clear hTP hTP' c0 c1 fr
              go_roundg (4 - (s + 1))
              case measure => have hkk := AA.out; omega
              case rel =>
                refine ⟨s + 1, rfl, by omega, by go_num, HBB.out.1.drew.setCell (by simp) _, HBB.out.2.1.drew.far (by simp) _, ?_⟩
                rw [← outT_end _ hs4]
                exact (B1.drew.set 19 _).of_eq rfl
        · obtain rfl : s = 4 := by omega
          go_wp2_with ((with_reducible refine at_list ?_); first | refine wpList_load_blk rfl 51 _ rfl _ rfl _ _ _ (B1) Try.underlying51 rfl tot_info ?_ | (refine wpList_store_blk rfl 51 _ _ rfl _ (totv _) rfl rfl _ _ (B0) tot_info rfl (totv_one _) ?_; intro w8 B8 hb8 hk8))
          have hb : Below w.heap.size w w8 := hB.trans (hb8 _ (by omega))
          apply ret_of
          · exact results_blk_tmp rfl _ _ _ _ _ _ rfl (B8) Try.underlying51 rfl tot_info _ rfl
          · exact ⟨rfl, by rw [outT_four HA.out]; rfl, hb⟩

theorem rat_any (l : List Itm) (A : Option Addr) (c : Nat) (k : Int) (w : World) (hi : Items w w.heap.size A l) (hc : l.length ≤ c) (hc2 : c ≤ 9223372036854775807) :
    Calls Try.prog 32 #[.slice A l.length c, .int .i64 k] w fun e w' => e = .returned (.tuple #[.agg (totv (totR (atK l k)).1).toArray, .int .i64 (totR (atK l k)).2]) ∧ Below w.heap.size w w' := by
  unfold atK
  by_cases h : k < 0 ∨ (l.length : Int) < k
  · rw [if_pos h]
    exact rat_off l A c k w h
  · rw [if_neg h, at_ref]
    have := rat_in l A c k.toNat w hi (by omega) hc hc2
    rwa [show ((k.toNat : Nat) : Int) = k by omega] at this
end Go.Proofs.Ytelkibmiinjokaa
