/-
  The walk over the document's 'lay', where entries are taken: more of the epoch.
  The document's 'lay', whole.
  The walk over the document's 'Take'.
  SameMail of two equal pieces of mail, on the code's side.
  The walk over 'same', where records and mail are the same.
  Between two pieces of mail, on both sides; records that apply one behind the other.
-/
import Derived.Test.YtdphfhenjndkkaaReplicasTakeK1
import Derived.Test.YtdphfhenjndkkaaReplicasTakeK2
import Derived.Test.YtdphfhenjndkkaaReplicasTakeK3
import Derived.Test.YtdphfhenjndkkaaReplicasTakeK4
import Derived.Test.YtdphfhenjndkkaaReplicasTakeK5
import Derived.Test.YtdphfhenjndkkaaReplicasTakeK6
import Derived.Test.YtdphfhenjndkkaaReplicasTakeK7
import Derived.Test.YtdphfhenjndkkaaReplicasTakeK8
set_option linter.unusedSimpArgs false
set_option linter.unusedVariables false
set_option maxRecDepth 100000
namespace Go.Proofs.Ytdphfhenjndkkaa
open Go Go.RowKit Go.Sq Go.Wd Go.Arch Go.Im

set_option maxHeartbeats 16000000 in
theorem rdlay_more (r : RegS) (sl : SlcE) (rb : Nat) (gr : Int) (E U : Nat → Int) (x : MailV) (now : Int) (w : World) (hB : RB w rb gr E U) (hbz : RBz E U) (h1s : x.m.stream = 1) (h0 : 0 ≤ now) (hl : LogAt w w.heap.size sl r.log) (hx : LogAt w w.heap.size x.es x.m.ents) (hx2 : x.m.ents.length ≤ 1000) (hok : mailOk r x.m) (hst : ¬ (x.m.epoch < r.prom ∨ (r.view < x.m.epoch ∧ 0 < x.m.base) ∨ (r.log.length : Int) < x.m.base)) (hS : ¬ r.view < x.m.epoch) (hJ0 : ¬ joinM r x.m <+: r.log) :
    Calls Try.prog 45 #[.agg (rgv r sl).toArray, .pointer (some ⟨rb, 0, none⟩), .agg (mailv x).toArray, .int .i64 now] w (RTakeP (layS r x.m) rb gr E U x.m now w) := by
  obtain ⟨k1, k2, k3, k4, k5, k6⟩ := hok
  have m64 : r.log.length ≤ 64 := ((okLog_iff _ _).1 ((mayR_iff r).1 k1).2.1).1
  have hvp := ((mayR_iff r).1 k1).1.2.1
  obtain ⟨bn, hbn⟩ := Int.eq_ofNat_of_zero_le k4
  have hI0 : DgI w ((w.alloc (.cells (rgv r sl).toArray 37)).alloc (.cells (mailv x).toArray 43)) r sl x rb gr E U := ⟨RpI.new (x := x) hl, hx.keep (RpI.new (x := x) hl).1, Blk.keep hB (RpI.new (x := x) hl).1⟩
  have hsn : sl.2.1 = r.log.length := hl.1
  have FC : ∀ W, RpI w W r sl x → (W.cell? ⟨w.heap.size + 1, 3, none⟩ = some (.int .i64 x.m.stream) ∧ W.cell? ⟨w.heap.size + 1, 4, none⟩ = some (.int .i64 x.m.epoch) ∧ W.cell? ⟨w.heap.size + 1, 6, none⟩ = some (.int .i64 x.m.base) ∧ W.cell? ⟨w.heap.size + 1, 7, none⟩ = some (.int .i64 x.m.len) ∧ W.cell? ⟨w.heap.size + 1, 8, none⟩ = some (.int .i64 x.m.stamp)) ∧
      W.cell? ⟨w.heap.size, 0, none⟩ = some (.int .i64 r.prom) ∧ W.cell? ⟨w.heap.size, 1, none⟩ = some (.int .i64 r.view) ∧ W.cell? ⟨w.heap.size, 2, none⟩ = some (.slice sl.1 sl.2.1 sl.2.2) := fun W h => ⟨⟨h.2.2.1.cell 3, h.2.2.1.cell 4, h.2.2.1.cell 6, h.2.2.1.cell 7, h.2.2.1.cell 8⟩, h.2.1.cell 0, h.2.1.cell 1, h.2.1.cell 2⟩
  have FD : ∀ W, DgI w W r sl x rb gr E U → W.cell? ⟨w.heap.size + 1, 6, none⟩ = some (.int .i64 (bn : Int)) ∧ W.cell? ⟨w.heap.size + 1, 9, none⟩ = some (.slice x.es.1 x.m.ents.length x.es.2.2) ∧ W.cell? ⟨w.heap.size, 2, none⟩ = some (.slice sl.1 sl.2.1 sl.2.2) := fun W h =>
    ⟨by rw [← hbn]; exact h.1.2.2.1.cell 6, by have h9 := h.1.2.2.1.cell 9; rw [h9]; show some (Value.slice x.es.1 x.es.2.1 x.es.2.2) = _; rw [hx.1], h.1.2.1.cell 2⟩
  have HI := Lib.hid hI0
  have HB := Lib.hid (And.intro hB (And.intro hbz h1s))
  have HK := Lib.hid (And.intro k1 (And.intro h0 (And.intro hx2 (And.intro hl (And.intro hx (And.intro m64 (And.intro hsn hbn)))))))
  obtain ⟨⟨f3, f4, f6, f7, f8⟩, g0, g1, g2⟩ := FC _ HI.out.1
  have c1 : ¬ x.m.epoch < r.prom := fun h => hst (.inl h)
  have hng : ¬ ((r.view < x.m.epoch ∧ 0 < x.m.base) ∨ (r.log.length : Int) < x.m.base) := fun h => hst (.inr h)
  have HL1 : Hid (grownS r x.m = none → layS r x.m = nothing) := Lib.hid (fun h => lay_none c1 hng h)
  have HL2 : Hid (∀ l q, grownS r x.m = some (l, q) → layS r x.m = ⟨l ++ comS q x.m, [ackM q x.m], 1⟩) := Lib.hid (fun l q h => lay_some c1 hng h)
  have a2 : ¬ (sl.2.1 : Int) < x.m.base := fun h => hng (.inr (by rw [← hsn]; exact h))
  have b1 : bn ≤ r.log.length := by omega
  have b2 : (bn : Int) ≤ (sl.2.2 : Int) := by have := hl.2.1; omega
  have b3 : bn ≤ sl.2.1 := by omega
  have b4 : (bn : Int) ≤ (sl.2.1 : Int) := by omega
  have hcs : (r.view < x.m.epoch ∧ ¬ 0 < x.m.base ∧ (x.m.epoch != r.view) = true ∧ (x.m.epoch == r.view) = false ∧ Hid (x.m.epoch ≠ r.view ∧ bn = 0)) ∨ (¬ r.view < x.m.epoch ∧ (x.m.epoch != r.view) = false ∧ (x.m.epoch == r.view) = true ∧ Hid (x.m.epoch = r.view)) := by
    by_cases h : r.view < x.m.epoch
    · exact .inl ⟨h, fun h2 => hng (.inl ⟨h, h2⟩), bne_iff_ne.2 (by omega), beq_eq_false_iff_ne.2 (by omega), Lib.hid ⟨by omega, by have : ¬ 0 < x.m.base := fun h2 => hng (.inl ⟨h, h2⟩); omega⟩⟩
    · have he : x.m.epoch = r.view := by omega
      exact .inr ⟨h, by rw [he]; simp, beq_iff_eq.2 he, Lib.hid he⟩
  clear hI0 hl hB k1 k2 k3 k4 k5 k6 hx hx2 m64 hbn hst hng hvp hbz h1s
  obtain ⟨a1, e1, e2, HV⟩ := hcs.resolve_left (fun h => hS h.1)
  have HP0 := Lib.hid hJ0
  clear hS hJ0
  try clear a3
  clear hsn
  go_enter Try.func45, Try.ntmps45
  go_wp2_with fail
  refine abs_code (fun W => DgI w W r sl x rb gr E U) HI.out ?_
  clear HI c1 a1 a2 f3 f4 f6 f7 f8 g0 g1 g2
  try clear a3
  intro w1 h1
  obtain ⟨wd, hwd⟩ : ∃ wd, w1.drew = wd := ⟨_, rfl⟩
  have h1d : DgI w wd r sl x rb gr E U := by rw [← hwd]; exact h1.keep (Below.refl _ _).drew
  clear h1
  refine wp_region_p ([(0, true), (1, true), (2, true), (3, true), (4, true), (6, true), (7, true), (5, false), (8, false), (9, true)]) (fun w' => DgI w w' r sl x rb gr E U) (by kernel_rfl) rfl (by kernel_rfl) (by kernel_rfl) (by rw [hwd]; exact h1d) rfl ?_
  intro KP RP TP hKP hTP hTP'
  simp only [List.append_eq, List.cons_append, List.nil_append, pick, nth]
  rw [hwd]
  clear hwd
  have H1 := Lib.hid h1d
  clear h1d
  go_wp2_with (first
    | (apply SeqP.skip; rfl; simp only [Act.put, List.setIfInBounds_toArray, List.set_cons_zero, List.set_cons_succ])
    | (apply SeqP.call; rfl; rfl; (intro w2 hw; have hw := hTP _ hw; ((obtain ⟨q6, q9, q2⟩ := FD _ hw)); go_simp; exact ⟨rfl, rfl⟩); (intro w2 hw; have hw := hTP _ hw; ((obtain ⟨q6, q9, q2⟩ := FD _ hw)); (first | fail)); simp only [Act.put, List.setIfInBounds_toArray, List.set_cons_zero, List.set_cons_succ])
    | (apply SeqP.pure; rfl; (intro w2 hw; have hw := hTP _ hw; ((obtain ⟨q6, q9, q2⟩ := FD _ hw)); go_simp; with_reducible rfl); simp only [Act.put, List.setIfInBounds_toArray, List.set_cons_zero, List.set_cons_succ])
    | (apply SeqP.split; rfl; rfl; all_goals (intro hc; simp only [hc]; try simp only [beq_iff_eq, decide_eq_true_eq, beq_eq_false_iff_ne, decide_eq_false_iff_not, bne_iff_ne, ne_eq, Bool.not_eq_true', Bool.not_eq_false', Int.not_le, Int.not_lt, bne_eq_false_iff_eq, Bool.or_eq_true, Bool.and_eq_true, Bool.or_eq_false_iff] at hc)))
  obtain ⟨v1, w2, hrun1, hR1, hg1, _⟩ := Row.app (Row.nil wd wd.heap.size) sl.1 sl.2.2 (LogAt.front (A := sl.1) (n := sl.2.1) (cap := sl.2.2) H1.out.1.2.2.2 b3).2.2.2 (by rw [List.length_take]; have := HK.out.2.2.2.2.2.1; simp; omega) (Nat.le_refl _)
  have htl : (r.log.take bn).length = bn := by rw [List.length_take]; omega
  rw [htl] at hrun1
  rw [List.nil_append] at hR1
  have hb1 : Below wd.heap.size wd w2 := ⟨hg1.os, hg1.tape, hg1.output, hg1.size, fun k hk => hg1.block k hk (by simp [Value.ownBlock])⟩
  have h2 := H1.out.keep hb1
  obtain ⟨v2, w3, hrun2, hR2, hg2, _⟩ := Row.app hR1 x.es.1 x.es.2.2 h2.2.1.2.2.2 (by rw [htl]; have := HK.out.2.2.1; have := HK.out.2.2.2.2.2.1; omega) hb1.size
  have hb2 : Below wd.heap.size wd w3 := below_own hb1 hg2 hR1 hb1.size
  have h3 := H1.out.keep hb2
  have hwz := H1.out.1.1.size
  have hwz2 : w.heap.size + 1 < wd.heap.size := H1.out.1.2.2.1.lt
  have HP := Lib.hid (And.intro h2 h3)
  apply SeqP.eff
  · rfl
  intro KE hKE
  refine oper_app (by rfl) (by rfl) (by rfl) hrun1 ?_
  refine hKE _ _ (hTP' _ HP.out.1) ?_
  clear hKE KE hrun1 hR1 hg1 hb1 h2
  go_wp2_with (first
    | (apply SeqP.skip; rfl; simp only [Act.put, List.setIfInBounds_toArray, List.set_cons_zero, List.set_cons_succ])
    | (apply SeqP.call; rfl; rfl; (intro w2 hw; have hw := hTP _ hw; ((obtain ⟨q6, q9, q2⟩ := FD _ hw)); go_simp; exact ⟨rfl, rfl⟩); (intro w2 hw; have hw := hTP _ hw; ((obtain ⟨q6, q9, q2⟩ := FD _ hw)); (first | fail)); simp only [Act.put, List.setIfInBounds_toArray, List.set_cons_zero, List.set_cons_succ])
    | (apply SeqP.pure; rfl; (intro w2 hw; have hw := hTP _ hw; ((obtain ⟨q6, q9, q2⟩ := FD _ hw)); go_simp; with_reducible rfl); simp only [Act.put, List.setIfInBounds_toArray, List.set_cons_zero, List.set_cons_succ])
    | (apply SeqP.split; rfl; rfl; all_goals (intro hc; simp only [hc]; try simp only [beq_iff_eq, decide_eq_true_eq, beq_eq_false_iff_ne, decide_eq_false_iff_not, bne_iff_ne, ne_eq, Bool.not_eq_true', Bool.not_eq_false', Int.not_le, Int.not_lt, bne_eq_false_iff_eq, Bool.or_eq_true, Bool.and_eq_true, Bool.or_eq_false_iff] at hc)))
  apply SeqP.eff
  · rfl
  intro KE hKE
  refine oper_app (by rfl) (by rfl) (by rfl) hrun2 ?_
  refine hKE _ _ (hTP' _ HP.out.2) ?_
  clear hKE KE hrun2 hg2 hb2 h3
  go_wp2_with (first
    | (apply SeqP.skip; rfl; simp only [Act.put, List.setIfInBounds_toArray, List.set_cons_zero, List.set_cons_succ])
    | (apply SeqP.call; rfl; rfl; (intro w2 hw; have hw := hTP _ hw; ((obtain ⟨q6, q9, q2⟩ := FD _ hw)); go_simp; exact ⟨rfl, rfl⟩); (intro w2 hw; have hw := hTP _ hw; ((obtain ⟨q6, q9, q2⟩ := FD _ hw)); (first | fail)); simp only [Act.put, List.setIfInBounds_toArray, List.set_cons_zero, List.set_cons_succ])
    | (apply SeqP.pure; rfl; (intro w2 hw; have hw := hTP _ hw; ((obtain ⟨q6, q9, q2⟩ := FD _ hw)); go_simp; with_reducible rfl); simp only [Act.put, List.setIfInBounds_toArray, List.set_cons_zero, List.set_cons_succ])
    | (apply SeqP.split; rfl; rfl; all_goals (intro hc; simp only [hc]; try simp only [beq_iff_eq, decide_eq_true_eq, beq_eq_false_iff_ne, decide_eq_false_iff_not, bne_iff_ne, ne_eq, Bool.not_eq_true', Bool.not_eq_false', Int.not_le, Int.not_lt, bne_eq_false_iff_eq, Bool.or_eq_true, Bool.and_eq_true, Bool.or_eq_false_iff] at hc)))
  apply SeqP.nil
  refine hKP _ _ (hTP' _ (HP.out.2)) ?_
  clear hKP hTP hTP'
  have hJe : joinM r x.m = r.log.take bn ++ x.m.ents := by unfold joinM; rw [HK.out.2.2.2.2.2.2.2, Int.toNat_natCast]
  rw [← hJe] at hR2
  have hJl : (joinM r x.m).length ≤ bn + x.m.ents.length := by rw [hJe, List.length_append, htl]; omega
  obtain ⟨J, hJ⟩ : ∃ J, joinM r x.m = J := ⟨_, rfl⟩
  rw [hJ] at hJl hR2
  have HJ := Lib.hid (And.intro hJ (And.intro hJl (show bn ≤ 64 from by have := HK.out.2.2.2.2.2.1; omega)))
  have HJ0 := Lib.hid b3
  clear hJe hJ hJl htl
  obtain ⟨AJ, cJ, rfl, hLJ, hwJ⟩ := hR2.form2
  have hwJ2 : (0 < J.length → ∃ q, AJ = some ⟨q, 0, none⟩) ∧ ∀ b o, AJ = some ⟨b, o, none⟩ → b < w3.heap.size := ⟨fun h => by
    obtain ⟨q, e, _, h2⟩ := hwJ h
    exact ⟨q, e⟩, fun b o e => by
    subst e
    rcases id hR2.2 with ⟨h', _⟩ | ⟨g, cap, cur, h', hg, _⟩
    · injection h' with e1
      cases e1
    · injection h' with e1
      cases e1
      exact (hR2.lt _ rfl).2⟩
  have H3 := Lib.hid (And.intro HP.out.2 (And.intro hLJ hwJ2))
  clear hLJ hwJ hwJ2 hR2 HP H1 hwz hwz2
  obtain ⟨⟨f3, f4, f6, f7, f8⟩, g0, g1, g2⟩ := FC _ H3.out.1.1
  go_wp2_with ((with_reducible refine at_list ?_); first | (with_reducible refine cut_at 72 rfl ?_) | refine wpList_load_blk rfl 37 _ rfl _ rfl _ _ _ (H3.out.1.1.2.1) Try.underlying37 rfl rg_info ?_ | (refine wpList_store_own rfl 37 _ _ rfl _ (rgv r sl) rfl rfl _ _ (Blk.new w3 37 (rgv reg0 (none, 0, 0))) rg_info rfl (rgv_one _ _) ?_; intro w4 B4 g4))
  refine Cut.go ?_
  have hb4 := below_new g4
  have H4 := Lib.hid (show DgJ w w4 r sl x rb gr E U J (AJ, J.length, cJ) w3.heap.size from ⟨H3.out.1.keep hb4, ⟨H3.out.2.1.keep hb4, H3.out.2.2⟩, B4, H3.out.1.1.2.2.1.lt⟩)
  clear hb4 B4 g4 H3 f3 f4 f6 f7 f8 g0 g1 g2 b1 b2 b3 b4
  generalize w3.heap.size = g13 at H4 ⊢
  obtain ⟨⟨f3, f4, f6, f7, f8⟩, g0, g1, g2⟩ := FC _ H4.out.1.1
  go_wp2_with fail
  refine (begins_sl r.log J sl (AJ, J.length, cJ) w4 H4.out.1.1.2.2.2 H4.out.2.1.1).mono ?_
  rintro e w5 ⟨rfl, hb5⟩
  have H5 := Lib.hid (H4.out.keep hb5)
  clear hb5 H4 f3 f4 f6 f7 f8 g0 g1 g2
  obtain ⟨⟨f3, f4, f6, f7, f8⟩, g0, g1, g2⟩ := FC _ H5.out.1.1
  by_cases hp1 : J <+: r.log
  case pos => exact absurd (HJ.out.1.symm ▸ hp1) HP0.out
  case neg =>
    rw [decide_eq_false hp1]
    have HP1 := Lib.hid hp1
    clear hp1
    go_wp2_with fail
    refine (begins_sl J r.log (AJ, J.length, cJ) sl w5 H5.out.2.1.1 H5.out.1.1.2.2.2).mono ?_
    rintro e w6 ⟨rfl, hb6⟩
    have H6 := Lib.hid (H5.out.keep hb6)
    clear hb6 H5 f3 f4 f6 f7 f8 g0 g1 g2
    obtain ⟨⟨f3, f4, f6, f7, f8⟩, g0, g1, g2⟩ := FC _ H6.out.1.1
    by_cases hp2 : r.log <+: J
    case neg =>
      rw [decide_eq_false hp2]
      have hS : grownS r x.m = none := by
        unfold grownS
        rw [if_pos HV.out, HJ.out.1, if_neg HP1.out, if_neg hp2]
      have HS := Lib.hid (HL1.out hS)
      clear hp2 hS
      go_wp2_with fail
      go_ret2
      rw [HS.out]
      exact RTakeP.pure rfl Answer.nothing HB.out.1 H6.out.1.1.1
    case pos =>
      rw [decide_eq_true hp2]
      have hsn := HK.out.2.2.2.2.2.2.1
      have hlt : sl.2.1 < J.length := by
        have h1 := hp2.length_le
        have h3 : J.length ≠ r.log.length := fun e => HP1.out (by
          have := hp2.eq_of_length e.symm
          rw [this]
          exact List.prefix_refl _)
        omega
      have hS : grownS r x.m = (applyR r (XV x.m sl.2.1 (J.drop sl.2.1) (AJ, 0, 0)).s).map fun q => ([(XV x.m sl.2.1 (J.drop sl.2.1) (AJ, 0, 0)).s], q) := by
        unfold grownS
        rw [if_pos HV.out, HJ.out.1, if_neg HP1.out, if_pos hp2, ← hsn]
        rfl
      obtain ⟨q, rfl⟩ : ∃ q, AJ = some ⟨q, 0, none⟩ := H6.out.2.1.2.1 (by omega)
      have hqg : q < g13 := H6.out.2.1.2.2 q 0 rfl
      have HS0 : bn ≤ sl.2.1 := HJ0.out
      have HS := Lib.hid (And.intro hS (show (J.drop sl.2.1).length ≤ 1000 from by rw [List.length_drop]; have := HJ.out.2.1; have := HJ.out.2.2; have := HK.out.2.2.1; have := HS0; omega))
      clear hp2 hS hsn
      have hcap : J.length ≤ cJ := H6.out.2.1.1.2.1
      have hcap2 : cJ ≤ 9223372036854775807 := H6.out.2.1.1.2.2.1
      have j0 : ¬ cJ = sl.2.1 := by omega
      have j1 : (sl.2.1 : Int) ≤ (J.length : Int) := by omega
      have j2 : (J.length : Int) ≤ (cJ : Int) := by omega
      have j3 : (cJ : Int) ≤ 9223372036854775807 := by omega
      have j4 : (sl.2.1 : Int) ≤ (cJ : Int) := by omega
      have j5 : (0 : Int) ≤ (sl.2.1 : Int) := by omega
      go_wp2_with ((with_reducible refine at_list ?_); first | (with_reducible refine cut_at 102 rfl ?_) | (refine wpList_store_own rfl 53 _ _ rfl _ (rcv (XV x.m 0 J (some ⟨q, 0, none⟩, J.length, cJ))) rfl rfl _ _ (Blk.new w6 53 (rcv recZ)) rc_info rfl (rcv_one' _) ?_; intro w7 B7 g7))
      refine Cut.go ?_
      have hb7 := below_new g7
      have hgx : g13 < w6.heap.size := H6.out.2.2.1.lt
      have H7 := Lib.hid (And.intro ((H6.out.keep hb7).keep (Below.refl _ _).drew) (And.intro B7.drew hgx))
      have h7 := H6.out.keep hb7
      clear hb7 B7 g7 H6 f3 f4 f6 f7 f8 g0 g1 g2 hgx
      obtain ⟨⟨f3, f4, f6, f7, f8⟩, g0, g1, g2⟩ := FC _ h7.1.1
      clear h7
      generalize w6.heap.size = gx at H7 ⊢
      go_wp2_with fail
      obtain ⟨wq, hwq⟩ : ∃ wq, w7.drew = wq := ⟨_, rfl⟩
      rw [hwq] at H7
      have FB : ∀ W, DgJ w W r sl x rb gr E U J (some ⟨q, 0, none⟩, J.length, cJ) g13 → W.cell? ⟨w.heap.size, 2, none⟩ = some (.slice sl.1 sl.2.1 sl.2.2) := fun W h => h.1.1.2.1.cell 2
      clear f3 f4 f6 f7 f8 g0 g1 g2
      refine wp_region_p ([(0, true), (1, true), (2, true), (3, true), (4, true), (5, true), (6, true), (7, true), (8, true), (9, false), (10, true), (11, false)]) (fun w' => DgJ w w' r sl x rb gr E U J (some ⟨q, 0, none⟩, J.length, cJ) g13) (by kernel_rfl) rfl (by kernel_rfl) (by kernel_rfl) (by rw [hwq]; exact H7.out.1) rfl ?_
      intro KP RP TP hKP hTP hTP'
      simp only [List.append_eq, List.cons_append, List.nil_append, pick, nth]
      rw [hwq]
      have c4 : wq.cell? ⟨gx, 4, none⟩ = some (.int .i64 0) := H7.out.2.1.cell 4
      have z4 : wq.frozen? ⟨gx, 4, none⟩ = false := H7.out.2.1.frozen 4
      have c6 : wq.cell? ⟨gx, 6, none⟩ = some (.slice (some ⟨q, 0, none⟩) J.length cJ) := H7.out.2.1.cell 6
      have z6 : wq.frozen? ⟨gx, 6, none⟩ = false := H7.out.2.1.frozen 6
      go_wp2_with (first
        | (apply SeqP.skip; rfl; simp only [Act.put, List.setIfInBounds_toArray, List.set_cons_zero, List.set_cons_succ])
        | (apply SeqP.call; rfl; rfl; (intro w2 hw; have hw := hTP _ hw; ((have q2 := FB _ hw)); go_simp; exact ⟨rfl, rfl⟩); (intro w2 hw; have hw := hTP _ hw; ((have q2 := FB _ hw)); (first | fail)); simp only [Act.put, List.setIfInBounds_toArray, List.set_cons_zero, List.set_cons_succ])
        | (apply SeqP.pure; rfl; (intro w2 hw; have hw := hTP _ hw; ((have q2 := FB _ hw)); go_simp; with_reducible rfl); simp only [Act.put, List.setIfInBounds_toArray, List.set_cons_zero, List.set_cons_succ])
        | (apply SeqP.split; rfl; rfl; all_goals (intro hc; simp only [hc]; try simp only [beq_iff_eq, decide_eq_true_eq, beq_eq_false_iff_ne, decide_eq_false_iff_not, bne_iff_ne, ne_eq, Bool.not_eq_true', Bool.not_eq_false', Int.not_le, Int.not_lt, bne_eq_false_iff_eq, Bool.or_eq_true, Bool.and_eq_true, Bool.or_eq_false_iff] at hc)))
      apply SeqP.eff
      · rfl
      intro KE hKE
      go_wp2_with fail
      have hrb : rb < w.heap.size := Blk.lt HB.out.1
      have G4 := only_setCell (World.grownBy.refl wq (some gx)) (p := ⟨gx, 4, none⟩) (.inl rfl) (.int .i64 (sl.2.1 : Int))
      have h14 := H7.out.1.grown HK.out.2.2.2.1 HK.out.2.2.2.2.1 hrb G4 H7.out.2.2
      have B14 := H7.out.2.1.set 4 (.int .i64 (sl.2.1 : Int))
      refine hKE _ _ (hTP' _ h14) ?_
      clear hKE KE
      go_wp2_with (first
        | (apply SeqP.skip; rfl; simp only [Act.put, List.setIfInBounds_toArray, List.set_cons_zero, List.set_cons_succ])
        | (apply SeqP.call; rfl; rfl; (intro w2 hw; have hw := hTP _ hw; (skip); go_simp; exact ⟨rfl, rfl⟩); (intro w2 hw; have hw := hTP _ hw; (skip); (first | fail)); simp only [Act.put, List.setIfInBounds_toArray, List.set_cons_zero, List.set_cons_succ])
        | (apply SeqP.pure; rfl; (intro w2 hw; have hw := hTP _ hw; (skip); go_simp; with_reducible rfl); simp only [Act.put, List.setIfInBounds_toArray, List.set_cons_zero, List.set_cons_succ])
        | (apply SeqP.split; rfl; rfl; all_goals (intro hc; simp only [hc]; try simp only [beq_iff_eq, decide_eq_true_eq, beq_eq_false_iff_ne, decide_eq_false_iff_not, bne_iff_ne, ne_eq, Bool.not_eq_true', Bool.not_eq_false', Int.not_le, Int.not_lt, bne_eq_false_iff_eq, Bool.or_eq_true, Bool.and_eq_true, Bool.or_eq_false_iff] at hc)))
      apply SeqP.eff
      · rfl
      intro KE hKE
      go_wp2_with fail
      have G6 := only_setCell (World.grownBy.refl (wq.setCell ⟨gx, 4, none⟩ (.int .i64 (sl.2.1 : Int))) (some gx)) (p := ⟨gx, 6, none⟩) (.inl rfl) (.slice (some ⟨q, sl.2.1 * 6, none⟩) (J.length - sl.2.1) (cJ - sl.2.1))
      have h15 := h14.grown HK.out.2.2.2.1 HK.out.2.2.2.2.1 hrb G6 H7.out.2.2
      have B15 := B14.set 6 (.slice (some ⟨q, sl.2.1 * 6, none⟩) (J.length - sl.2.1) (cJ - sl.2.1))
      refine hKE _ _ (hTP' _ h15) ?_
      clear hKE KE
      go_wp2_with (first
        | (apply SeqP.skip; rfl; simp only [Act.put, List.setIfInBounds_toArray, List.set_cons_zero, List.set_cons_succ])
        | (apply SeqP.call; rfl; rfl; (intro w2 hw; have hw := hTP _ hw; (skip); go_simp; exact ⟨rfl, rfl⟩); (intro w2 hw; have hw := hTP _ hw; (skip); (first | fail)); simp only [Act.put, List.setIfInBounds_toArray, List.set_cons_zero, List.set_cons_succ])
        | (apply SeqP.pure; rfl; (intro w2 hw; have hw := hTP _ hw; (skip); go_simp; with_reducible rfl); simp only [Act.put, List.setIfInBounds_toArray, List.set_cons_zero, List.set_cons_succ])
        | (apply SeqP.split; rfl; rfl; all_goals (intro hc; simp only [hc]; try simp only [beq_iff_eq, decide_eq_true_eq, beq_eq_false_iff_ne, decide_eq_false_iff_not, bne_iff_ne, ne_eq, Bool.not_eq_true', Bool.not_eq_false', Int.not_le, Int.not_lt, bne_eq_false_iff_eq, Bool.or_eq_true, Bool.and_eq_true, Bool.or_eq_false_iff] at hc)))
      apply SeqP.nil
      refine hKP _ _ (hTP' _ (h15)) ?_
      clear hKP hTP hTP'
      generalize (wq.setCell ⟨gx, 4, none⟩ (.int .i64 (sl.2.1 : Int))).setCell ⟨gx, 6, none⟩ (.slice (some ⟨q, sl.2.1 * 6, none⟩) (J.length - sl.2.1) (cJ - sl.2.1)) = wt at h15 B15 ⊢
      have hL2 : LogAt wt wt.heap.size (some ⟨q, sl.2.1 * 6, none⟩, J.length - sl.2.1, cJ - sl.2.1) (J.drop sl.2.1) := by
        have h := LogAt.back h15.2.1.1 (c := sl.2.1) (by omega)
        rw [if_neg j0, Option.map_some, add_off, Nat.zero_add] at h
        exact h
      have HT := Lib.hid (show ∃ xv, DgJ w wt r sl x rb gr E U J (some ⟨q, 0, none⟩, J.length, cJ) g13 ∧ Blk wt gx 53 (rcv xv) ∧ LogAt wt wt.heap.size xv.es xv.ents ∧ xv.ents.length ≤ 1000 ∧ (∀ b o, xv.es.1 = some ⟨b, o, none⟩ → b < g13) ∧ xv.fs = (none, 0, 0) ∧ grownS r x.m = (applyR r xv.s).map fun q => ([xv.s], q) from
        ⟨XV x.m sl.2.1 (J.drop sl.2.1) (some ⟨q, sl.2.1 * 6, none⟩, J.length - sl.2.1, cJ - sl.2.1), h15, B15, hL2, HS.out.2, fun b o e => by cases e; exact hqg, rfl, HS.out.1⟩)
      clear h15 B15 G4 G6 h14 B14 hL2 c4 z4 c6 z6 j0 j1 j2 j3 j4 j5 FB H7 HS HS0 hcap hcap2 hlt hrb hwq
      go_wp2_with ((with_reducible refine at_list ?_); (with_reducible refine cut_at 118 rfl ?_))
      refine Cut.go ?_
      obtain ⟨xv, hT1, hT2, hT3, hT4, hT5, hT6, hT7⟩ := HT.out
      have HXV := Lib.hid (And.intro hT6 hT7)
      have HW := Lib.hid (And.intro hT1 (And.intro hT2 (And.intro hT3 (And.intro hT4 hT5))))
      clear hT1 hT2 hT3 hT4 hT5 hT6 hT7 HT
      obtain ⟨qa, ok, hqa⟩ : ∃ qa ok, regR (applyR r xv.s) = (qa, ok) := ⟨_, _, rfl⟩
      have hdoc := doc_any r sl xv wt HW.out.1.1.1.2.2.2 HW.out.2.2.1 HW.out.2.2.2.1
      unfold DocP at hdoc
      rw [hqa] at hdoc
      dsimp only at hdoc
      have HDC := Lib.hid (And.intro hdoc hqa)
      clear hdoc hqa
      cases ok with
      | false =>
        have hN : grownS r x.m = none := by
          have h := HDC.out.2
          rw [HXV.out.2]
          cases hA : applyR r xv.s with
          | none => rfl
          | some a => rw [hA] at h; cases h
        have HS := Lib.hid (HL1.out hN)
        clear hN
        go_wp2_with ((with_reducible refine at_list ?_); first | refine wpList_load_blk rfl 37 _ rfl _ rfl _ _ _ (HW.out.1.1.1.2.1) Try.underlying37 rfl rg_info ?_ | refine wpList_load_blk rfl 53 _ rfl _ rfl _ _ _ (HW.out.2.1) Try.underlying53 rfl rc_info ?_)
        refine HDC.out.1.mono ?_
        rintro e wa ⟨sa, rfl, hLa, hba⟩
        have HA := Lib.hid (below_trans HW.out.1.1.1.1 hba HW.out.1.1.1.1.size)
        clear hLa hba HW HDC
        go_wp2_with ((with_reducible refine at_list ?_); first | (refine wpList_store_own rfl 37 _ _ rfl _ (rgv qa sa) rfl rfl _ _ (Blk.new wa 37 (rgv reg0 (none, 0, 0))) rg_info rfl (rgv_one _ _) ?_; intro wb Bb gb))
        have hwb := below_trans HA.out (below_new gb) HA.out.size
        go_ret2
        rw [HS.out]
        exact RTakeP.pure rfl Answer.nothing HB.out.1 hwb
      | true =>
        have hN : grownS r x.m = some ([xv.s], qa) := by
          have h := HDC.out.2
          rw [HXV.out.2]
          cases hA : applyR r xv.s with
          | none => rw [hA] at h; cases h
          | some a => rw [hA] at h; cases h; rfl
        have HN2 := Lib.hid hN
        clear hN
        go_wp2_with ((with_reducible refine at_list ?_); first | refine wpList_load_blk rfl 37 _ rfl _ rfl _ _ _ (HW.out.1.1.1.2.1) Try.underlying37 rfl rg_info ?_ | refine wpList_load_blk rfl 53 _ rfl _ rfl _ _ _ (HW.out.2.1) Try.underlying53 rfl rc_info ?_)
        refine HDC.out.1.mono ?_
        rintro e wa ⟨sa, rfl, hLa, hba⟩
        have hgxl := HW.out.1.2.2.1.lt
        have HA := Lib.hid (And.intro (HW.out.1.keep hba) (And.intro (HW.out.2.1.keep hba) (And.intro (HW.out.2.2.1.keep hba) (And.intro HW.out.2.2.2.2 (And.intro hLa (Nat.lt_of_lt_of_le hgxl hba.size))))))
        clear hLa hba HW HDC hgxl
        go_wp2_with ((with_reducible refine at_list ?_); first | (with_reducible refine cut_at 126 rfl ?_) | (refine wpList_store_own rfl 37 _ _ rfl _ (rgv qa sa) rfl rfl _ _ (Blk.new wa 37 (rgv reg0 (none, 0, 0))) rg_info rfl (rgv_one _ _) ?_; intro wb Bb gb))
        refine Cut.go ?_
        have hwb := below_new gb
        have hrow := RRow.snoc (RRow.nil wb w.heap.size) xv ⟨HA.out.2.2.1.keep hwb, fun b o e => ⟨by simp [Value.ownBlock], by have h1 := HA.out.2.2.2.1 b o e; have h2 := HA.out.2.2.2.2.2; have h3 := hwb.size; omega⟩⟩ (by simp) (Nat.le_trans HA.out.1.1.1.1.size hwb.size)
        obtain ⟨v2, w2, hrun, hR2, hg2⟩ := hrow
        obtain ⟨Ax, cx, hvx, -, -, -⟩ := hR2.recs
        have hv2 : v2 = .slice Ax 1 cx := hvx
        clear hvx
        subst hv2
        have hb2 : Below wb.heap.size wb w2 := ⟨hg2.os, hg2.tape, hg2.output, hg2.size, fun k hk => hg2.block k hk (by simp [Value.ownBlock])⟩
        have HX := Lib.hid (HA.out.2.1.keep hwb)
        have h2 := (HA.out.1.keep hwb).keep hb2
        have H2 := Lib.hid (And.intro h2 (And.intro (Bb.keep hb2) (And.intro ((HA.out.2.2.2.2.1.keep hwb).keep hb2) (And.intro hR2 HA.out.2.2.2.2.2))))
        clear hwb Bb gb hR2 hg2 hb2 h2 HA
        generalize wa.heap.size = ga at H2 ⊢
        go_wp2_with ((with_reducible refine at_list ?_); first | (with_reducible refine cut_at 127 rfl ?_) | refine wpList_load_blk rfl 53 _ rfl _ rfl _ _ _ (HX.out) Try.underlying53 rfl rc_info ?_)
        refine Cut.go ?_
        unfold rcv at hrun ⊢
        go_wp2_with (first | ((with_reducible refine at_list ?_); (with_reducible refine cut_at 129 rfl ?_)) | (at_builtin; refine wpList_app rfl (by rfl) (by rfl) (by rfl) hrun ?_))
        refine Cut.go ?_
        clear hrun HX
        go_wp2_with ((with_reducible refine at_list ?_); first | (with_reducible refine cut_at 130 rfl ?_) | refine wpList_load_blk rfl 37 _ rfl _ rfl _ _ _ (H2.out.2.1) Try.underlying37 rfl rg_info ?_ | (refine wpList_store_own rfl 37 _ _ rfl _ (rgv qa sa) rfl rfl _ _ (H2.out.1.2.2.1) rg_info rfl (rgv_one _ _) ?_; intro wz Bz gz))
        refine Cut.go ?_
        have hbz : Below w.heap.size w wz := H2.out.1.1.1.1.trans (below_grown gz (by have := H2.out.1.2.2.2; omega) H2.out.1.1.1.1.size)
        have HQ := Lib.hid (show grownS r x.m = some ([xv].map RecV.s, qa) ∧ (∀ y ∈ [xv], y.fs = (none, 0, 0)) ∧ sa.2.1 = qa.log.length from ⟨HN2.out, fun y hy => by rw [List.mem_singleton.1 hy]; exact HXV.out.1, H2.out.2.2.1.1⟩)
        have hne : ∀ m, m ≠ g13 → some m ≠ some g13 := fun m h e => h (Option.some.inj e)
        have HD := Lib.hid (show DyK w wz x g13 qa sa (.slice Ax 1 cx) [xv] rb gr E U from ⟨hbz, H2.out.1.1.1.2.2.1.grown gz (hne _ (by have := H2.out.1.2.2.2; omega)), H2.out.2.2.2.1.stored H2.out.1.2.2.1 (by simp [rgv]) (by decide) gz, Bz, Blk.grown H2.out.1.1.2.2 gz (hne _ (by have h1 := H2.out.1.2.2.2; have h2 : rb < w.heap.size := Blk.lt HB.out.1; omega)), H2.out.1.2.2.2⟩)
        clear H2 hbz Bz gz HN2 hne
        obtain ⟨mn, hmn⟩ : ∃ mn, min x.m.len (qa.log.length : Int) = mn := ⟨_, rfl⟩
        have HMN := Lib.hid hmn
        have f3 : wz.cell? ⟨w.heap.size + 1, 3, none⟩ = some (.int .i64 x.m.stream) := HD.out.2.1.cell 3
        have f7 : wz.cell? ⟨w.heap.size + 1, 7, none⟩ = some (.int .i64 x.m.len) := HD.out.2.1.cell 7
        have c2 : wz.cell? ⟨g13, 2, none⟩ = some (.slice sa.1 qa.log.length sa.2.2) := by rw [← HQ.out.2.2]; exact HD.out.2.2.2.1.cell 2
        have c3 : wz.cell? ⟨g13, 3, none⟩ = some (.int .i64 qa.com) := HD.out.2.2.2.1.cell 3
        clear hmn
        by_cases hml : (qa.log.length : Int) < x.m.len
        case' pos => have hmm : (qa.log.length : Int) = mn := by have := HMN.out; omega
        case' neg => have hmm : x.m.len = mn := by have := HMN.out; omega
        all_goals
          have HMM := Lib.hid hmm
          clear hmm
          go_wp2_with ((with_reducible refine at_list ?_); (with_reducible refine cut_at 137 rfl ?_))
          refine Cut.go ?_
          rw [HMM.out]
          clear HMM hml f7 c2
          by_cases hp : qa.com < mn
          case pos =>
            have hcc : comS qa x.m = [(recCn x.m mn).s] := by
              unfold comS
              rw [HMN.out, if_pos hp]
              unfold recC
              rw [HMN.out]
              rfl
            have HC := Lib.hid hcc
            obtain ⟨v2, w6, hrun, hR6, hg6⟩ := RRow.snoc HD.out.2.2.1 (recCn x.m mn) ⟨LogAt.nil, fun b o e => by cases e⟩ (by simp) HD.out.1.size
            obtain ⟨A2, c22, rfl, -, -, -⟩ := hR6.recs
            have h6 : DyK w w6 x g13 qa sa (.slice A2 ([xv] ++ [recCn x.m mn]).length c22) ([xv] ++ [recCn x.m mn]) rb gr E U :=
              ⟨Gr.below_row HD.out.1 hg6 HD.out.2.2.1.1 HD.out.1.size, blk_beside HD.out.2.1 (by decide) HD.out.2.2.1 hg6, hR6, blk_beside HD.out.2.2.2.1 (by decide) HD.out.2.2.1 hg6, blk_beside HD.out.2.2.2.2.1 (by decide) HD.out.2.2.1 hg6, HD.out.2.2.2.2.2⟩
            have HY := Lib.hid (show DyK w w6 x g13 qa sa (.slice A2 ([xv] ++ [recCn x.m mn]).length c22) ([xv] ++ [recCn x.m mn]) rb gr E U ∧ ([xv] ++ [recCn x.m mn]).map RecV.s = ([xv]).map RecV.s ++ comS qa x.m ∧ (∀ y ∈ [xv] ++ [recCn x.m mn], y.fs = (none, 0, 0)) from
              ⟨h6, by rw [HC.out, List.map_append]; rfl, fun y hy => by
                rcases List.mem_append.1 hy with h | h
                · exact HQ.out.2.1 y h
                · rw [List.mem_singleton.1 h]; rfl⟩)
            clear h6 hR6 hg6 hcc HC HD
            unfold recCn rcv at hrun
            dsimp only at hrun
            go_wp2_with (first | ((with_reducible refine at_list ?_); (with_reducible refine cut_at 148 rfl ?_)) | (at_builtin; refine wpList_app rfl (by rfl) (by rfl) (by rfl) hrun ?_))
            refine Cut.go ?_
            clear hrun f3 c3 hp
            obtain ⟨wy, rfl⟩ : ∃ wy, wy = w6 := ⟨_, rfl⟩
            have f3 : wy.cell? ⟨w.heap.size + 1, 3, none⟩ = some (.int .i64 x.m.stream) := HY.out.1.2.1.cell 3
            have f4 : wy.cell? ⟨w.heap.size + 1, 4, none⟩ = some (.int .i64 x.m.epoch) := HY.out.1.2.1.cell 4
            have HS := Lib.hid (HL2.out _ _ HQ.out.1)
            have hokE : ∀ z ∈ (layS r x.m).recs, OkE z.ents := by
              rw [HS.out]
              intro z hz
              rcases List.mem_append.1 hz with h | h
              · exact grown_ok HQ.out.1 z h
              · exact com_ok z h
            have HO := Lib.hid hokE
            clear hokE
            go_wp2_with fail
            refine (rgrant_any rb gr E U x.m.stream x.m.epoch now (by have := HK.out.2.1; omega) wy HY.out.1.2.2.2.2.1).mono ?_
            rintro e w9 ⟨rfl, hR9, hg9⟩
            have hne : ∀ m, m ≠ rb → some m ≠ some rb := fun m h e => h (Option.some.inj e)
            have hrb : rb < w.heap.size := Blk.lt HB.out.1
            have hM9 := HY.out.1.2.1.grown hg9 (hne _ (by omega))
            have hQ9 := HY.out.1.2.2.2.1.grown hg9 (hne _ (by have := HY.out.1.2.2.2.2.2; omega))
            have hX9 := (HY.out.1.2.2.1.rcs).rb HY.out.1.2.2.2.2.1 hg9 (fun y hy => by
              obtain ⟨v, hv⟩ := HO.out y.s (by rw [HS.out]; show y.s ∈ _; rw [← HY.out.2.1]; exact List.mem_map_of_mem hy)
              exact (HY.out.1.2.2.1.rcs.2 y hy).rb hv HY.out.1.2.2.2.2.1 HB.out.2.1 hg9)
            have hK9 : Kept w w9 (some rb) none := (Kept.ofBelow HY.out.1.1 _ _).trans (Kept.ofGrown hg9)
            have HXS := Lib.hid HY.out.2
            have H9 := Lib.hid (And.intro hM9 (And.intro hQ9 (And.intro hX9 (And.intro hR9 hK9))))
            clear hM9 hQ9 hX9 hR9 hg9 hK9 HY f3 f4 hne hrb HO
            have f4 : w9.cell? ⟨w.heap.size + 1, 4, none⟩ = some (.int .i64 x.m.epoch) := H9.out.1.cell 4
            go_wp2_with ((with_reducible refine at_list ?_); first | refine wpList_load_blk rfl 43 _ rfl _ rfl _ _ _ (H9.out.1) Try.underlying43 rfl mail_info ?_)
            refine (rback_any x 5 x.m.epoch w9).mono ?_
            rintro e w10 ⟨rfl, hb10⟩
            have H10 := Lib.hid hb10
            clear hb10 f4
            go_wp2_with ((with_reducible refine at_list ?_); first | (refine wpList_store_own rfl 43 _ _ rfl _ (mailv (backV x.m 5 x.m.epoch)) rfl rfl _ _ (Blk.new w10 43 (mailv backV0)) mail_info rfl (mail_one _) ?_; intro w11 B11 g11))
            have hb11 := below_new g11
            have h11 : PrS w9 w10.heap.size 43 (mailv (backV x.m 5 x.m.epoch)) (none, 0, 0) [] w11.drew := PrS.keep ⟨below_trans H10.out hb11 H10.out.size, B11, LogAt.nil, H10.out.size, by simp⟩ (Below.refl _ _).drew
            have H11 := Lib.hid h11
            clear hb11 B11 g11 h11 H10
            have FB2 : ∀ W, Below w9.heap.size w9 W → W.cell? ⟨g13, 2, none⟩ = some (.slice sa.1 qa.log.length sa.2.2) ∧ W.cell? ⟨w.heap.size + 1, 8, none⟩ = some (.int .i64 x.m.stamp) := fun W h => ⟨by rw [← HQ.out.2.2]; exact (H9.out.2.1.keep h).cell 2, (H9.out.1.keep h).cell 8⟩
            refine wp_region_p ([(0, true), (1, true), (2, true), (3, true), (4, true), (5, true), (6, false), (7, true), (8, false)]) (fun w' => Below w9.heap.size w9 w') (by kernel_rfl) rfl (by kernel_rfl) (by kernel_rfl) (H11.out.1) rfl ?_
            intro KP RP TP hKP hTP hTP'
            simp only [List.append_eq, List.cons_append, List.nil_append, pick, nth]
            generalize w11.drew = we at *
            generalize w10.heap.size = g at *
            go_wp2_with (first
              | (apply SeqP.skip; rfl; simp only [Act.put, List.setIfInBounds_toArray, List.set_cons_zero, List.set_cons_succ])
              | (apply SeqP.call; rfl; rfl; (intro w2 hw; have hw := hTP _ hw; ((obtain ⟨q2, q8⟩ := FB2 _ hw)); go_simp; exact ⟨rfl, rfl⟩); (intro w2 hw; have hw := hTP _ hw; ((obtain ⟨q2, q8⟩ := FB2 _ hw)); (first | fail)); simp only [Act.put, List.setIfInBounds_toArray, List.set_cons_zero, List.set_cons_succ])
              | (apply SeqP.pure; rfl; (intro w2 hw; have hw := hTP _ hw; ((obtain ⟨q2, q8⟩ := FB2 _ hw)); go_simp; with_reducible rfl); simp only [Act.put, List.setIfInBounds_toArray, List.set_cons_zero, List.set_cons_succ])
              | (apply SeqP.split; rfl; rfl; all_goals (intro hc; simp only [hc]; try simp only [beq_iff_eq, decide_eq_true_eq, beq_eq_false_iff_ne, decide_eq_false_iff_not, bne_iff_ne, ne_eq, Bool.not_eq_true', Bool.not_eq_false', Int.not_le, Int.not_lt, bne_eq_false_iff_eq, Bool.or_eq_true, Bool.and_eq_true, Bool.or_eq_false_iff] at hc)))
            have h12 := H11.out.set 7 (.int .i64 (qa.log.length : Int))
            have h13 := h12.set 8 (.int .i64 x.m.stamp)
            have HP2 := Lib.hid (And.intro h12 h13)
            have c7 : we.cell? ⟨g, 7, none⟩ = some (.int .i64 0) := H11.out.2.1.cell 7
            have z7 : we.frozen? ⟨g, 7, none⟩ = false := H11.out.2.1.frozen 7
            have c8 : we.cell? ⟨g, 8, none⟩ = some (.int .i64 0) := H11.out.2.1.cell 8
            have z8 : we.frozen? ⟨g, 8, none⟩ = false := H11.out.2.1.frozen 8
            clear h12 h13 H11
            apply SeqP.eff
            · rfl
            intro KE hKE
            go_wp2_with fail
            refine hKE _ _ (hTP' _ HP2.out.1.1) ?_
            clear hKE KE
            go_wp2_with (first
              | (apply SeqP.skip; rfl; simp only [Act.put, List.setIfInBounds_toArray, List.set_cons_zero, List.set_cons_succ])
              | (apply SeqP.call; rfl; rfl; (intro w2 hw; have hw := hTP _ hw; (skip); go_simp; exact ⟨rfl, rfl⟩); (intro w2 hw; have hw := hTP _ hw; (skip); (first | fail)); simp only [Act.put, List.setIfInBounds_toArray, List.set_cons_zero, List.set_cons_succ])
              | (apply SeqP.pure; rfl; (intro w2 hw; have hw := hTP _ hw; (skip); go_simp; with_reducible rfl); simp only [Act.put, List.setIfInBounds_toArray, List.set_cons_zero, List.set_cons_succ])
              | (apply SeqP.split; rfl; rfl; all_goals (intro hc; simp only [hc]; try simp only [beq_iff_eq, decide_eq_true_eq, beq_eq_false_iff_ne, decide_eq_false_iff_not, bne_iff_ne, ne_eq, Bool.not_eq_true', Bool.not_eq_false', Int.not_le, Int.not_lt, bne_eq_false_iff_eq, Bool.or_eq_true, Bool.and_eq_true, Bool.or_eq_false_iff] at hc)))
            apply SeqP.eff
            · rfl
            intro KE hKE
            go_wp2_with fail
            refine hKE _ _ (hTP' _ HP2.out.2.1) ?_
            clear hKE KE
            go_wp2_with (first
              | (apply SeqP.skip; rfl; simp only [Act.put, List.setIfInBounds_toArray, List.set_cons_zero, List.set_cons_succ])
              | (apply SeqP.call; rfl; rfl; (intro w2 hw; have hw := hTP _ hw; (skip); go_simp; exact ⟨rfl, rfl⟩); (intro w2 hw; have hw := hTP _ hw; (skip); (first | fail)); simp only [Act.put, List.setIfInBounds_toArray, List.set_cons_zero, List.set_cons_succ])
              | (apply SeqP.pure; rfl; (intro w2 hw; have hw := hTP _ hw; (skip); go_simp; with_reducible rfl); simp only [Act.put, List.setIfInBounds_toArray, List.set_cons_zero, List.set_cons_succ])
              | (apply SeqP.split; rfl; rfl; all_goals (intro hc; simp only [hc]; try simp only [beq_iff_eq, decide_eq_true_eq, beq_eq_false_iff_ne, decide_eq_false_iff_not, bne_iff_ne, ne_eq, Bool.not_eq_true', Bool.not_eq_false', Int.not_le, Int.not_lt, bne_eq_false_iff_eq, Bool.or_eq_true, Bool.and_eq_true, Bool.or_eq_false_iff] at hc)))
            apply SeqP.nil
            refine hKP _ _ (hTP' _ (HP2.out.2.1)) ?_
            clear hKP hTP hTP'
            have hcs : ((mailv (backV x.m 5 x.m.epoch)).set 7 (.int .i64 (qa.log.length : Int))).set 8 (.int .i64 x.m.stamp) = mailv (ackV qa x.m) := rfl
            have h14 := HP2.out.2
            rw [hcs] at h14
            obtain ⟨av, hav⟩ : ∃ av, ackV qa x.m = av := ⟨_, rfl⟩
            have HAV := Lib.hid (show av.m = ackM qa x.m ∧ av.o = (0, 0, 0, 0, 0) ∧ av.an = (0, 0, 0) ∧ av.es = (none, 0, 0) ∧ av.m.ents = [] from by rw [← hav]; exact ⟨rfl, rfl, rfl, rfl, rfl⟩)
            rw [hav] at h14
            clear HP2 hcs c7 z7 c8 z8 hav
            generalize ((we.setCell ⟨g, 7, none⟩ (.int .i64 (qa.log.length : Int))).setCell ⟨g, 8, none⟩ (.int .i64 x.m.stamp)) = wf at h14 ⊢
            have H15 := Lib.hid (h14.keep (Below.refl _ _).drew)
            clear h14
            go_wp2_with fail
            refine wp_region_p ([(0, true), (1, true), (3, true), (2, false), (4, true)]) (fun w' => Below w9.heap.size w9 w' ∧ Blk w' g 43 (mailv av)) (by kernel_rfl) rfl (by kernel_rfl) (by kernel_rfl) (⟨H15.out.1, H15.out.2.1⟩) rfl ?_
            intro KP RP TP hKP hTP hTP'
            simp only [List.append_eq, List.cons_append, List.nil_append, pick, nth]
            generalize wf.drew = wh at *
            go_wp2_with (first
              | (apply SeqP.skip; rfl; simp only [Act.put, List.setIfInBounds_toArray, List.set_cons_zero, List.set_cons_succ])
              | (apply SeqP.pure; rfl; (intro w2 hw; have hw := hTP _ hw; exact exec_load_blk 43 _ rfl _ rfl _ _ (hw.2) _ Try.underlying43 rfl mail_info); simp only [Act.put, List.setIfInBounds_toArray, List.set_cons_zero, List.set_cons_succ])
              | (apply SeqP.call; rfl; rfl; (intro w2 hw; have hw := hTP _ hw; ((obtain ⟨q2, q8⟩ := FB2 _ hw.1)); go_simp; exact ⟨rfl, rfl⟩); (intro w2 hw; have hw := hTP _ hw; ((obtain ⟨q2, q8⟩ := FB2 _ hw.1)); (first | fail)); simp only [Act.put, List.setIfInBounds_toArray, List.set_cons_zero, List.set_cons_succ])
              | (apply SeqP.pure; rfl; (intro w2 hw; have hw := hTP _ hw; ((obtain ⟨q2, q8⟩ := FB2 _ hw.1)); go_simp; with_reducible rfl); simp only [Act.put, List.setIfInBounds_toArray, List.set_cons_zero, List.set_cons_succ])
              | (apply SeqP.split; rfl; rfl; all_goals (intro hc; simp only [hc]; try simp only [beq_iff_eq, decide_eq_true_eq, beq_eq_false_iff_ne, decide_eq_false_iff_not, bne_iff_ne, ne_eq, Bool.not_eq_true', Bool.not_eq_false', Int.not_le, Int.not_lt, bne_eq_false_iff_eq, Bool.or_eq_true, Bool.and_eq_true, Bool.or_eq_false_iff] at hc)))
            have hy0 : LogAt wh wh.heap.size av.es av.m.ents := by rw [HAV.out.2.2.2.1, HAV.out.2.2.2.2]; exact LogAt.nil
            have ha := H15.out.1.alloc H15.out.1.size (.cells (mailv av).toArray 43)
            have hml := mails_lit wh av hy0
            have hrr := H9.out.2.2.1.keep ha
            have HF := Lib.hid (And.intro ha (And.intro hml (And.intro hrr (H15.out.2.1.alloc (.cells (mailv av).toArray 43)))))
            clear hy0 ha hml hrr
            unfold mailv at HF
            apply SeqP.eff
            · rfl
            intro KE hKE
            simp only [mailv]
            go_wp2_with fail
            refine hKE _ _ (hTP' _ ⟨HF.out.1, HF.out.2.2.2⟩) ?_
            clear hKE KE
            go_wp2_with (first
              | (apply SeqP.skip; rfl; simp only [Act.put, List.setIfInBounds_toArray, List.set_cons_zero, List.set_cons_succ])
              | (apply SeqP.call; rfl; rfl; (intro w2 hw; have hw := hTP _ hw; ((obtain ⟨q2, q8⟩ := FB2 _ hw.1)); go_simp; exact ⟨rfl, rfl⟩); (intro w2 hw; have hw := hTP _ hw; ((obtain ⟨q2, q8⟩ := FB2 _ hw.1)); (first | fail)); simp only [Act.put, List.setIfInBounds_toArray, List.set_cons_zero, List.set_cons_succ])
              | (apply SeqP.pure; rfl; (intro w2 hw; have hw := hTP _ hw; ((obtain ⟨q2, q8⟩ := FB2 _ hw.1)); go_simp; with_reducible rfl); simp only [Act.put, List.setIfInBounds_toArray, List.set_cons_zero, List.set_cons_succ])
              | (apply SeqP.split; rfl; rfl; all_goals (intro hc; simp only [hc]; try simp only [beq_iff_eq, decide_eq_true_eq, beq_eq_false_iff_ne, decide_eq_false_iff_not, bne_iff_ne, ne_eq, Bool.not_eq_true', Bool.not_eq_false', Int.not_le, Int.not_lt, bne_eq_false_iff_eq, Bool.or_eq_true, Bool.and_eq_true, Bool.or_eq_false_iff] at hc)))
            apply SeqP.nil
            refine hKP _ _ (hTP' _ ⟨HF.out.1, HF.out.2.2.2⟩) ?_
            clear hKP hTP hTP'
            go_wp2_with fail
            go_ret2
            rw [HS.out]
            exact ⟨⟨_, _, _, 1, ([xv] ++ [recCn x.m mn]), [av], rfl, HF.out.2.2.1, HF.out.2.1, HXS.out.1, by rw [← HAV.out.1]; rfl, HXS.out.2, fun z hz => by rw [List.mem_singleton.1 hz]; exact ⟨HAV.out.2.1, HAV.out.2.2.1⟩⟩, by show RB _ rb gr (bookE 1 E U x.m.stream x.m.epoch) (bookU 1 E U x.m.stream x.m.epoch now); unfold bookE bookU; rw [if_pos rfl, if_pos rfl]; exact Blk.keep H9.out.2.2.2.1 HF.out.1, H9.out.2.2.2.2.trans (Kept.ofBelow HF.out.1 _ _)⟩
          case neg =>
            have hcc : comS qa x.m = [] := by
              unfold comS
              rw [HMN.out, if_neg hp]
            have HY := Lib.hid (And.intro HD.out (And.intro (show ([xv]).map RecV.s = ([xv]).map RecV.s ++ comS qa x.m from by rw [hcc, List.append_nil]) HQ.out.2.1))
            clear hcc HD
            go_wp2_with ((with_reducible refine at_list ?_); (with_reducible refine cut_at 148 rfl ?_))
            refine Cut.go ?_
            clear f3 c3 hp
            obtain ⟨wy, rfl⟩ : ∃ wy, wy = wz := ⟨_, rfl⟩
            have f3 : wy.cell? ⟨w.heap.size + 1, 3, none⟩ = some (.int .i64 x.m.stream) := HY.out.1.2.1.cell 3
            have f4 : wy.cell? ⟨w.heap.size + 1, 4, none⟩ = some (.int .i64 x.m.epoch) := HY.out.1.2.1.cell 4
            have HS := Lib.hid (HL2.out _ _ HQ.out.1)
            have hokE : ∀ z ∈ (layS r x.m).recs, OkE z.ents := by
              rw [HS.out]
              intro z hz
              rcases List.mem_append.1 hz with h | h
              · exact grown_ok HQ.out.1 z h
              · exact com_ok z h
            have HO := Lib.hid hokE
            clear hokE
            go_wp2_with fail
            refine (rgrant_any rb gr E U x.m.stream x.m.epoch now (by have := HK.out.2.1; omega) wy HY.out.1.2.2.2.2.1).mono ?_
            rintro e w9 ⟨rfl, hR9, hg9⟩
            have hne : ∀ m, m ≠ rb → some m ≠ some rb := fun m h e => h (Option.some.inj e)
            have hrb : rb < w.heap.size := Blk.lt HB.out.1
            have hM9 := HY.out.1.2.1.grown hg9 (hne _ (by omega))
            have hQ9 := HY.out.1.2.2.2.1.grown hg9 (hne _ (by have := HY.out.1.2.2.2.2.2; omega))
            have hX9 := (HY.out.1.2.2.1.rcs).rb HY.out.1.2.2.2.2.1 hg9 (fun y hy => by
              obtain ⟨v, hv⟩ := HO.out y.s (by rw [HS.out]; show y.s ∈ _; rw [← HY.out.2.1]; exact List.mem_map_of_mem hy)
              exact (HY.out.1.2.2.1.rcs.2 y hy).rb hv HY.out.1.2.2.2.2.1 HB.out.2.1 hg9)
            have hK9 : Kept w w9 (some rb) none := (Kept.ofBelow HY.out.1.1 _ _).trans (Kept.ofGrown hg9)
            have HXS := Lib.hid HY.out.2
            have H9 := Lib.hid (And.intro hM9 (And.intro hQ9 (And.intro hX9 (And.intro hR9 hK9))))
            clear hM9 hQ9 hX9 hR9 hg9 hK9 HY f3 f4 hne hrb HO
            have f4 : w9.cell? ⟨w.heap.size + 1, 4, none⟩ = some (.int .i64 x.m.epoch) := H9.out.1.cell 4
            go_wp2_with ((with_reducible refine at_list ?_); first | refine wpList_load_blk rfl 43 _ rfl _ rfl _ _ _ (H9.out.1) Try.underlying43 rfl mail_info ?_)
            refine (rback_any x 5 x.m.epoch w9).mono ?_
            rintro e w10 ⟨rfl, hb10⟩
            have H10 := Lib.hid hb10
            clear hb10 f4
            go_wp2_with ((with_reducible refine at_list ?_); first | (refine wpList_store_own rfl 43 _ _ rfl _ (mailv (backV x.m 5 x.m.epoch)) rfl rfl _ _ (Blk.new w10 43 (mailv backV0)) mail_info rfl (mail_one _) ?_; intro w11 B11 g11))
            have hb11 := below_new g11
            have h11 : PrS w9 w10.heap.size 43 (mailv (backV x.m 5 x.m.epoch)) (none, 0, 0) [] w11.drew := PrS.keep ⟨below_trans H10.out hb11 H10.out.size, B11, LogAt.nil, H10.out.size, by simp⟩ (Below.refl _ _).drew
            have H11 := Lib.hid h11
            clear hb11 B11 g11 h11 H10
            have FB2 : ∀ W, Below w9.heap.size w9 W → W.cell? ⟨g13, 2, none⟩ = some (.slice sa.1 qa.log.length sa.2.2) ∧ W.cell? ⟨w.heap.size + 1, 8, none⟩ = some (.int .i64 x.m.stamp) := fun W h => ⟨by rw [← HQ.out.2.2]; exact (H9.out.2.1.keep h).cell 2, (H9.out.1.keep h).cell 8⟩
            refine wp_region_p ([(0, true), (1, true), (2, true), (3, true), (4, true), (5, true), (6, false), (7, true), (8, false)]) (fun w' => Below w9.heap.size w9 w') (by kernel_rfl) rfl (by kernel_rfl) (by kernel_rfl) (H11.out.1) rfl ?_
            intro KP RP TP hKP hTP hTP'
            simp only [List.append_eq, List.cons_append, List.nil_append, pick, nth]
            generalize w11.drew = we at *
            generalize w10.heap.size = g at *
            go_wp2_with (first
              | (apply SeqP.skip; rfl; simp only [Act.put, List.setIfInBounds_toArray, List.set_cons_zero, List.set_cons_succ])
              | (apply SeqP.call; rfl; rfl; (intro w2 hw; have hw := hTP _ hw; ((obtain ⟨q2, q8⟩ := FB2 _ hw)); go_simp; exact ⟨rfl, rfl⟩); (intro w2 hw; have hw := hTP _ hw; ((obtain ⟨q2, q8⟩ := FB2 _ hw)); (first | fail)); simp only [Act.put, List.setIfInBounds_toArray, List.set_cons_zero, List.set_cons_succ])
              | (apply SeqP.pure; rfl; (intro w2 hw; have hw := hTP _ hw; ((obtain ⟨q2, q8⟩ := FB2 _ hw)); go_simp; with_reducible rfl); simp only [Act.put, List.setIfInBounds_toArray, List.set_cons_zero, List.set_cons_succ])
              | (apply SeqP.split; rfl; rfl; all_goals (intro hc; simp only [hc]; try simp only [beq_iff_eq, decide_eq_true_eq, beq_eq_false_iff_ne, decide_eq_false_iff_not, bne_iff_ne, ne_eq, Bool.not_eq_true', Bool.not_eq_false', Int.not_le, Int.not_lt, bne_eq_false_iff_eq, Bool.or_eq_true, Bool.and_eq_true, Bool.or_eq_false_iff] at hc)))
            have h12 := H11.out.set 7 (.int .i64 (qa.log.length : Int))
            have h13 := h12.set 8 (.int .i64 x.m.stamp)
            have HP2 := Lib.hid (And.intro h12 h13)
            have c7 : we.cell? ⟨g, 7, none⟩ = some (.int .i64 0) := H11.out.2.1.cell 7
            have z7 : we.frozen? ⟨g, 7, none⟩ = false := H11.out.2.1.frozen 7
            have c8 : we.cell? ⟨g, 8, none⟩ = some (.int .i64 0) := H11.out.2.1.cell 8
            have z8 : we.frozen? ⟨g, 8, none⟩ = false := H11.out.2.1.frozen 8
            clear h12 h13 H11
            apply SeqP.eff
            · rfl
            intro KE hKE
            go_wp2_with fail
            refine hKE _ _ (hTP' _ HP2.out.1.1) ?_
            clear hKE KE
            go_wp2_with (first
              | (apply SeqP.skip; rfl; simp only [Act.put, List.setIfInBounds_toArray, List.set_cons_zero, List.set_cons_succ])
              | (apply SeqP.call; rfl; rfl; (intro w2 hw; have hw := hTP _ hw; (skip); go_simp; exact ⟨rfl, rfl⟩); (intro w2 hw; have hw := hTP _ hw; (skip); (first | fail)); simp only [Act.put, List.setIfInBounds_toArray, List.set_cons_zero, List.set_cons_succ])
              | (apply SeqP.pure; rfl; (intro w2 hw; have hw := hTP _ hw; (skip); go_simp; with_reducible rfl); simp only [Act.put, List.setIfInBounds_toArray, List.set_cons_zero, List.set_cons_succ])
              | (apply SeqP.split; rfl; rfl; all_goals (intro hc; simp only [hc]; try simp only [beq_iff_eq, decide_eq_true_eq, beq_eq_false_iff_ne, decide_eq_false_iff_not, bne_iff_ne, ne_eq, Bool.not_eq_true', Bool.not_eq_false', Int.not_le, Int.not_lt, bne_eq_false_iff_eq, Bool.or_eq_true, Bool.and_eq_true, Bool.or_eq_false_iff] at hc)))
            apply SeqP.eff
            · rfl
            intro KE hKE
            go_wp2_with fail
            refine hKE _ _ (hTP' _ HP2.out.2.1) ?_
            clear hKE KE
            go_wp2_with (first
              | (apply SeqP.skip; rfl; simp only [Act.put, List.setIfInBounds_toArray, List.set_cons_zero, List.set_cons_succ])
              | (apply SeqP.call; rfl; rfl; (intro w2 hw; have hw := hTP _ hw; (skip); go_simp; exact ⟨rfl, rfl⟩); (intro w2 hw; have hw := hTP _ hw; (skip); (first | fail)); simp only [Act.put, List.setIfInBounds_toArray, List.set_cons_zero, List.set_cons_succ])
              | (apply SeqP.pure; rfl; (intro w2 hw; have hw := hTP _ hw; (skip); go_simp; with_reducible rfl); simp only [Act.put, List.setIfInBounds_toArray, List.set_cons_zero, List.set_cons_succ])
              | (apply SeqP.split; rfl; rfl; all_goals (intro hc; simp only [hc]; try simp only [beq_iff_eq, decide_eq_true_eq, beq_eq_false_iff_ne, decide_eq_false_iff_not, bne_iff_ne, ne_eq, Bool.not_eq_true', Bool.not_eq_false', Int.not_le, Int.not_lt, bne_eq_false_iff_eq, Bool.or_eq_true, Bool.and_eq_true, Bool.or_eq_false_iff] at hc)))
            apply SeqP.nil
            refine hKP _ _ (hTP' _ (HP2.out.2.1)) ?_
            clear hKP hTP hTP'
            have hcs : ((mailv (backV x.m 5 x.m.epoch)).set 7 (.int .i64 (qa.log.length : Int))).set 8 (.int .i64 x.m.stamp) = mailv (ackV qa x.m) := rfl
            have h14 := HP2.out.2
            rw [hcs] at h14
            obtain ⟨av, hav⟩ : ∃ av, ackV qa x.m = av := ⟨_, rfl⟩
            have HAV := Lib.hid (show av.m = ackM qa x.m ∧ av.o = (0, 0, 0, 0, 0) ∧ av.an = (0, 0, 0) ∧ av.es = (none, 0, 0) ∧ av.m.ents = [] from by rw [← hav]; exact ⟨rfl, rfl, rfl, rfl, rfl⟩)
            rw [hav] at h14
            clear HP2 hcs c7 z7 c8 z8 hav
            generalize ((we.setCell ⟨g, 7, none⟩ (.int .i64 (qa.log.length : Int))).setCell ⟨g, 8, none⟩ (.int .i64 x.m.stamp)) = wf at h14 ⊢
            have H15 := Lib.hid (h14.keep (Below.refl _ _).drew)
            clear h14
            go_wp2_with fail
            refine wp_region_p ([(0, true), (1, true), (3, true), (2, false), (4, true)]) (fun w' => Below w9.heap.size w9 w' ∧ Blk w' g 43 (mailv av)) (by kernel_rfl) rfl (by kernel_rfl) (by kernel_rfl) (⟨H15.out.1, H15.out.2.1⟩) rfl ?_
            intro KP RP TP hKP hTP hTP'
            simp only [List.append_eq, List.cons_append, List.nil_append, pick, nth]
            generalize wf.drew = wh at *
            go_wp2_with (first
              | (apply SeqP.skip; rfl; simp only [Act.put, List.setIfInBounds_toArray, List.set_cons_zero, List.set_cons_succ])
              | (apply SeqP.pure; rfl; (intro w2 hw; have hw := hTP _ hw; exact exec_load_blk 43 _ rfl _ rfl _ _ (hw.2) _ Try.underlying43 rfl mail_info); simp only [Act.put, List.setIfInBounds_toArray, List.set_cons_zero, List.set_cons_succ])
              | (apply SeqP.call; rfl; rfl; (intro w2 hw; have hw := hTP _ hw; ((obtain ⟨q2, q8⟩ := FB2 _ hw.1)); go_simp; exact ⟨rfl, rfl⟩); (intro w2 hw; have hw := hTP _ hw; ((obtain ⟨q2, q8⟩ := FB2 _ hw.1)); (first | fail)); simp only [Act.put, List.setIfInBounds_toArray, List.set_cons_zero, List.set_cons_succ])
              | (apply SeqP.pure; rfl; (intro w2 hw; have hw := hTP _ hw; ((obtain ⟨q2, q8⟩ := FB2 _ hw.1)); go_simp; with_reducible rfl); simp only [Act.put, List.setIfInBounds_toArray, List.set_cons_zero, List.set_cons_succ])
              | (apply SeqP.split; rfl; rfl; all_goals (intro hc; simp only [hc]; try simp only [beq_iff_eq, decide_eq_true_eq, beq_eq_false_iff_ne, decide_eq_false_iff_not, bne_iff_ne, ne_eq, Bool.not_eq_true', Bool.not_eq_false', Int.not_le, Int.not_lt, bne_eq_false_iff_eq, Bool.or_eq_true, Bool.and_eq_true, Bool.or_eq_false_iff] at hc)))
            have hy0 : LogAt wh wh.heap.size av.es av.m.ents := by rw [HAV.out.2.2.2.1, HAV.out.2.2.2.2]; exact LogAt.nil
            have ha := H15.out.1.alloc H15.out.1.size (.cells (mailv av).toArray 43)
            have hml := mails_lit wh av hy0
            have hrr := H9.out.2.2.1.keep ha
            have HF := Lib.hid (And.intro ha (And.intro hml (And.intro hrr (H15.out.2.1.alloc (.cells (mailv av).toArray 43)))))
            clear hy0 ha hml hrr
            unfold mailv at HF
            apply SeqP.eff
            · rfl
            intro KE hKE
            simp only [mailv]
            go_wp2_with fail
            refine hKE _ _ (hTP' _ ⟨HF.out.1, HF.out.2.2.2⟩) ?_
            clear hKE KE
            go_wp2_with (first
              | (apply SeqP.skip; rfl; simp only [Act.put, List.setIfInBounds_toArray, List.set_cons_zero, List.set_cons_succ])
              | (apply SeqP.call; rfl; rfl; (intro w2 hw; have hw := hTP _ hw; ((obtain ⟨q2, q8⟩ := FB2 _ hw.1)); go_simp; exact ⟨rfl, rfl⟩); (intro w2 hw; have hw := hTP _ hw; ((obtain ⟨q2, q8⟩ := FB2 _ hw.1)); (first | fail)); simp only [Act.put, List.setIfInBounds_toArray, List.set_cons_zero, List.set_cons_succ])
              | (apply SeqP.pure; rfl; (intro w2 hw; have hw := hTP _ hw; ((obtain ⟨q2, q8⟩ := FB2 _ hw.1)); go_simp; with_reducible rfl); simp only [Act.put, List.setIfInBounds_toArray, List.set_cons_zero, List.set_cons_succ])
              | (apply SeqP.split; rfl; rfl; all_goals (intro hc; simp only [hc]; try simp only [beq_iff_eq, decide_eq_true_eq, beq_eq_false_iff_ne, decide_eq_false_iff_not, bne_iff_ne, ne_eq, Bool.not_eq_true', Bool.not_eq_false', Int.not_le, Int.not_lt, bne_eq_false_iff_eq, Bool.or_eq_true, Bool.and_eq_true, Bool.or_eq_false_iff] at hc)))
            apply SeqP.nil
            refine hKP _ _ (hTP' _ ⟨HF.out.1, HF.out.2.2.2⟩) ?_
            clear hKP hTP hTP'
            go_wp2_with fail
            go_ret2
            rw [HS.out]
            exact ⟨⟨_, _, _, 1, ([xv]), [av], rfl, HF.out.2.2.1, HF.out.2.1, HXS.out.1, by rw [← HAV.out.1]; rfl, HXS.out.2, fun z hz => by rw [List.mem_singleton.1 hz]; exact ⟨HAV.out.2.1, HAV.out.2.2.1⟩⟩, by show RB _ rb gr (bookE 1 E U x.m.stream x.m.epoch) (bookU 1 E U x.m.stream x.m.epoch now); unfold bookE bookU; rw [if_pos rfl, if_pos rfl]; exact Blk.keep H9.out.2.2.2.1 HF.out.1, H9.out.2.2.2.2.trans (Kept.ofBelow HF.out.1 _ _)⟩
end Go.Proofs.Ytdphfhenjndkkaa

set_option linter.unusedSimpArgs false
set_option linter.unusedVariables false
set_option maxRecDepth 100000
namespace Go.Proofs.Ytdphfhenjndkkaa
open Go Go.RowKit Go.Sq Go.Wd Go.Arch Go.Im

theorem rdlay_any (r : RegS) (sl : SlcE) (rb : Nat) (gr : Int) (E U : Nat → Int) (x : MailV) (now : Int) (w : World) (hB : RB w rb gr E U) (hbz : RBz E U) (h1s : x.m.stream = 1) (h0 : 0 ≤ now) (hl : LogAt w w.heap.size sl r.log) (hx : LogAt w w.heap.size x.es x.m.ents) (hx2 : x.m.ents.length ≤ 1000) (hok : mailOk r x.m) :
    Calls Try.prog 45 #[.agg (rgv r sl).toArray, .pointer (some ⟨rb, 0, none⟩), .agg (mailv x).toArray, .int .i64 now] w (RTakeP (layS r x.m) rb gr E U x.m now w) := by
  by_cases h : x.m.epoch < r.prom ∨ (r.view < x.m.epoch ∧ 0 < x.m.base) ∨ (r.log.length : Int) < x.m.base
  · exact rdlay_stop r sl rb gr E U x now w hB h0 hl hx hx2 hok h
  by_cases hv : r.view < x.m.epoch
  · exact rdlay_new r sl rb gr E U x now w hB hbz h1s h0 hl hx hx2 hok h hv
  by_cases hj : joinM r x.m <+: r.log
  · exact rdlay_old r sl rb gr E U x now w hB hbz h1s h0 hl hx hx2 hok h hv hj
  · exact rdlay_more r sl rb gr E U x now w hB hbz h1s h0 hl hx hx2 hok h hv hj
end Go.Proofs.Ytdphfhenjndkkaa

set_option linter.unusedSimpArgs false
set_option linter.unusedVariables false
set_option maxRecDepth 100000
namespace Go.Proofs.Ytdphfhenjndkkaa
open Go Go.RowKit Go.Sq Go.Wd Go.Arch Go.Im

set_option maxHeartbeats 16000000 in
theorem rdtake_any (r : RegS) (sl : SlcE) (rb : Nat) (gr : Int) (E U : Nat → Int) (x : MailV) (now : Int) (w : World) (hB : RB w rb gr E U) (hbz : RBz E U) (h1s : x.m.stream = 1) (h0 : 0 ≤ now) (hl : LogAt w w.heap.size sl r.log) (hx : LogAt w w.heap.size x.es x.m.ents) (hx2 : x.m.ents.length ≤ 1000) :
    Calls Try.prog 15 #[.agg (rgv r sl).toArray, .pointer (some ⟨rb, 0, none⟩), .agg (mailv x).toArray, .int .i64 now] w (RTakeP (takeS r (rmayL gr E U x.m.stream x.m.epoch now) x.m) rb gr E U x.m now w) := by
  have hI0 := RpI.new (x := x) hl
  have FC : ∀ W, RpI w W r sl x → W.cell? ⟨w.heap.size + 1, 0, none⟩ = some (.int .i64 x.m.kind) ∧ W.cell? ⟨w.heap.size + 1, 3, none⟩ = some (.int .i64 x.m.stream) ∧ W.cell? ⟨w.heap.size + 1, 4, none⟩ = some (.int .i64 x.m.epoch) ∧ W.cell? ⟨w.heap.size + 1, 6, none⟩ = some (.int .i64 x.m.base) := fun W h => ⟨h.2.2.1.cell 0, h.2.2.1.cell 3, h.2.2.1.cell 4, h.2.2.1.cell 6⟩
  have hck := rcheck15_any r sl _ hI0.2.2.2
  have HI := Lib.hid (And.intro hI0 hck)
  have HB := Lib.hid hB
  have HZ := Lib.hid hbz
  clear hbz
  have HK := Lib.hid (And.intro h1s (And.intro h0 (And.intro hl (And.intro hx hx2))))
  clear hI0 hck hl hB h1s hx hx2
  obtain ⟨may, hmay⟩ : ∃ may, rmayL gr E U x.m.stream x.m.epoch now = may := ⟨_, rfl⟩
  rw [hmay]
  have HM := Lib.hid hmay
  clear hmay
  cases hm : mayR r with
  | false =>
    have HS := Lib.hid (take_not (may := may) (m := x.m) (fun h => by rw [h.1] at hm; cases hm))
    rw [hm] at HI
    clear hm
    go_enter Try.func15, Try.ntmps15
    go_wp2_with ((with_reducible refine at_list ?_); first | refine wpList_load_blk rfl 37 _ rfl _ rfl _ _ _ (HI.out.1.2.1) Try.underlying37 rfl rg_info ?_)
    refine HI.out.2.mono ?_
    rintro e w1 ⟨rfl, hb⟩
    have H1 := Lib.hid (HI.out.1.keep hb)
    clear hb HI
    go_wp2_with fail
    go_ret2
    rw [HS.out]
    exact RTakeP.pure rfl Answer.nothing HB.out H1.out.1
  | true =>
    rw [hm] at HI
    by_cases hok : mailOk r x.m
    case neg =>
      have HS := Lib.hid (take_not (may := may) hok)
      have hcs : x.m.stream < 0 ∨ (¬ x.m.stream < 0 ∧ 4 ≤ x.m.stream) ∨ (¬ x.m.stream < 0 ∧ ¬ 4 ≤ x.m.stream ∧ x.m.base < 0) ∨ (¬ x.m.stream < 0 ∧ ¬ 4 ≤ x.m.stream ∧ ¬ x.m.base < 0 ∧ x.m.epoch < 1) ∨ (¬ x.m.stream < 0 ∧ ¬ 4 ≤ x.m.stream ∧ ¬ x.m.base < 0 ∧ ¬ x.m.epoch < 1 ∧ 1048576 < x.m.epoch) := by
        have : ¬ (0 ≤ x.m.stream ∧ x.m.stream < 4 ∧ 0 ≤ x.m.base ∧ 1 ≤ x.m.epoch ∧ x.m.epoch ≤ 1048576) := fun h => hok ⟨hm, h⟩
        omega
      clear hok hm
      rcases hcs with c1 | ⟨c1, c2⟩ | ⟨c1, c2, c3⟩ | ⟨c1, c2, c3, c4⟩ | ⟨c1, c2, c3, c4, c5⟩
      all_goals
        go_enter Try.func15, Try.ntmps15
        go_wp2_with ((with_reducible refine at_list ?_); first | refine wpList_load_blk rfl 37 _ rfl _ rfl _ _ _ (HI.out.1.2.1) Try.underlying37 rfl rg_info ?_)
        refine HI.out.2.mono ?_
        rintro e w1 ⟨rfl, hb⟩
        have H1 := Lib.hid (HI.out.1.keep hb)
        clear hb HI
        obtain ⟨f0, f3, f4, f6⟩ := FC _ H1.out
        go_wp2_with fail
        go_ret2
        rw [HS.out]
        exact RTakeP.pure rfl Answer.nothing HB.out H1.out.1
    case pos =>
      have hok' := hok
      obtain ⟨-, c1, c2, c3, c4, c5⟩ := hok
      have HOK := Lib.hid hok'
      clear hok' hm
      have c2 : ¬ 4 ≤ x.m.stream := by omega
      have c1 : ¬ x.m.stream < 0 := by omega
      have c3 : ¬ x.m.base < 0 := by omega
      have c4 : ¬ x.m.epoch < 1 := by omega
      have c5 : ¬ 1048576 < x.m.epoch := by omega
      go_enter Try.func15, Try.ntmps15
      go_wp2_with ((with_reducible refine at_list ?_); first | refine wpList_load_blk rfl 37 _ rfl _ rfl _ _ _ (HI.out.1.2.1) Try.underlying37 rfl rg_info ?_)
      refine HI.out.2.mono ?_
      rintro e w1 ⟨rfl, hb⟩
      have h1 := HI.out.1.keep hb
      have hx1 := (HK.out.2.2.2.1.below h1.1).more h1.1.size
      have hR1 : RB w1 rb gr E U := Blk.keep HB.out h1.1
      have H1 := Lib.hid (And.intro h1 (And.intro hx1 hR1))
      clear hR1
      clear hb HI h1 hx1
      obtain ⟨f0, f3, f4, f6⟩ := FC _ H1.out.1
      have hkc : x.m.kind = 1 ∨ x.m.kind = 4 ∨ x.m.kind = 9 ∨ (x.m.kind ≠ 1 ∧ x.m.kind ≠ 4 ∧ x.m.kind ≠ 9) := by omega
      rcases hkc with hk | hk | hk | ⟨k1, k4, k9⟩
      · rw [hk] at f0
        have HK1 := Lib.hid hk
        clear hk
        go_wp2_with fail
        refine (rmay_any rb gr E U x.m.stream x.m.epoch now w1 H1.out.2.2).mono ?_
        rw [HM.out]
        rintro e w3 ⟨rfl, hb3⟩
        have hR3 : RB w3 rb gr E U := Blk.keep H1.out.2.2 hb3
        have H3 := Lib.hid (And.intro (H1.out.1.keep hb3) hR3)
        clear hb3 hR3 H1 f0 f3 f4 f6 c1 c2 c3 c4 c5
        obtain ⟨f0, f3, f4, f6⟩ := FC _ H3.out.1
        have g0 : w3.cell? ⟨w.heap.size, 0, none⟩ = some (.int .i64 r.prom) := H3.out.1.2.1.cell 0
        have hcs : (may = false ∨ (may = true ∧ x.m.epoch ≤ r.prom)) ∨ (may = true ∧ ¬ x.m.epoch ≤ r.prom) := by
          cases may
          · exact .inl (.inl rfl)
          · by_cases h : x.m.epoch ≤ r.prom
            · exact .inl (.inr ⟨rfl, h⟩)
            · exact .inr ⟨rfl, h⟩
        rcases hcs with hcs | ⟨hmt, hp⟩
        · have hS : prepS r may x.m = ⟨[], [refM r x.m], 0⟩ := by
            unfold prepS
            rw [if_neg]
            rintro ⟨h1, h2⟩
            rcases hcs with h | ⟨h, h3⟩
            · rw [h] at h1; cases h1
            · omega
          have HS := Lib.hid ((take_1 (may := may) HOK.out HK1.out).trans hS)
          clear hS
          rcases hcs with h | ⟨h, h3⟩
          all_goals
            subst h
            go_wp2_with ((with_reducible refine at_list ?_); first | refine wpList_load_blk rfl 43 _ rfl _ rfl _ _ _ (H3.out.1.2.2.1) Try.underlying43 rfl mail_info ?_)
            refine (rback_any x 3 r.prom w3).mono ?_
            rintro e w4 ⟨rfl, hb4⟩
            have hw4 := below_trans H3.out.1.1 hb4 H3.out.1.1.size
            have H4 := Lib.hid (And.intro (hw4.alloc hw4.size (.cells (mailv (backV x.m 3 r.prom)).toArray 43)) (mails_lit w4 (backV x.m 3 r.prom) LogAt.nil))
            clear hw4 hb4 H3 f0 f3 f4 f6 g0
            have HY := Lib.hid (show (backV x.m 3 r.prom).m = refM r x.m ∧ (backV x.m 3 r.prom).o = (0, 0, 0, 0, 0) ∧ (backV x.m 3 r.prom).an = (0, 0, 0) from ⟨rfl, rfl, rfl⟩)
            generalize backV x.m 3 r.prom = y at H4 HY ⊢
            unfold mailv at H4 ⊢
            go_wp2_with fail
            go_ret2
            rw [HS.out]
            exact RTakeP.pure rfl (Answer.mail rfl H4.out.2 (by rw [HY.out.1]) HY.out.2) HB.out H4.out.1
        · subst hmt
          have hS : prepS r true x.m = ⟨[recP x.m], [promM r x.m], 1⟩ := by unfold prepS; rw [if_pos ⟨rfl, by omega⟩]
          have HS := Lib.hid ((take_1 (may := true) HOK.out HK1.out).trans hS)
          clear hS
          go_wp2_with fail
          refine (rgrant_any rb gr E U x.m.stream x.m.epoch now (by have := HK.out.2.1; omega) w3 H3.out.2).mono ?_
          rintro e w5 ⟨rfl, hR5, hg5⟩
          have hne : ∀ m, m ≠ rb → some m ≠ some rb := fun m h e => h (Option.some.inj e)
          have hrb : rb < w.heap.size := Blk.lt HB.out
          have hM5 := H3.out.1.2.2.1.grown hg5 (hne _ (by omega))
          have hG5 := H3.out.1.2.1.grown hg5 (hne _ (by omega))
          have hL5 := H3.out.1.2.2.2.rb (may_ents HOK.out.1) H3.out.2 HZ.out hg5
          have hK5 : Kept w w5 (some rb) none := (Kept.ofBelow H3.out.1.1 _ _).trans (Kept.ofGrown hg5)
          have H5 := Lib.hid (And.intro hG5 (And.intro hM5 (And.intro hL5 (And.intro hR5 hK5))))
          clear hM5 hG5 hL5 hR5 hg5 hK5 hne hrb H3 f0 f3 f4 f6 g0 hp
          have f4 : w5.cell? ⟨w.heap.size + 1, 4, none⟩ = some (.int .i64 x.m.epoch) := H5.out.2.1.cell 4
          go_wp2_with ((with_reducible refine at_list ?_); first | refine wpList_load_blk rfl 43 _ rfl _ rfl _ _ _ (H5.out.2.1) Try.underlying43 rfl mail_info ?_)
          refine (rback_any x 2 x.m.epoch w5).mono ?_
          rintro e w6 ⟨rfl, hb6⟩
          have H6 := Lib.hid hb6
          clear hb6 f4
          go_wp2_with ((with_reducible refine at_list ?_); first | (refine wpList_store_own rfl 43 _ _ rfl _ (mailv (backV x.m 2 x.m.epoch)) rfl rfl _ _ (Blk.new w6 43 (mailv backV0)) mail_info rfl (mail_one _) ?_; intro w7 B7 g7))
          have hb7 := below_new g7
          have h8 : PrS w5 w6.heap.size 43 (mailv (backV x.m 2 x.m.epoch)) (none, 0, 0) [] w7.drew := PrS.keep ⟨below_trans H6.out hb7 H6.out.size, B7, LogAt.nil, H6.out.size, by simp⟩ (Below.refl _ _).drew
          have H8 := Lib.hid h8
          clear hb7 B7 g7 h8 H6
          have FB : ∀ W, Below w5.heap.size w5 W → (W.cell? ⟨w.heap.size, 1, none⟩ = some (.int .i64 r.view) ∧ W.cell? ⟨w.heap.size, 2, none⟩ = some (.slice sl.1 sl.2.1 sl.2.2) ∧ W.cell? ⟨w.heap.size, 3, none⟩ = some (.int .i64 r.com)) ∧ W.cell? ⟨w.heap.size + 1, 8, none⟩ = some (.int .i64 x.m.stamp) ∧ W.cell? ⟨w.heap.size + 1, 3, none⟩ = some (.int .i64 x.m.stream) ∧ W.cell? ⟨w.heap.size + 1, 4, none⟩ = some (.int .i64 x.m.epoch) := fun W h => ⟨⟨(H5.out.1.keep h).cell 1, (H5.out.1.keep h).cell 2, (H5.out.1.keep h).cell 3⟩, (H5.out.2.1.keep h).cell 8, (H5.out.2.1.keep h).cell 3, (H5.out.2.1.keep h).cell 4⟩
          refine wp_region_p ([(0, true), (1, true), (2, true), (3, true), (4, true), (5, true), (6, true), (7, true), (8, true), (9, false), (10, true), (11, false), (12, true), (13, false), (14, true), (15, false)]) (fun w' => Below w5.heap.size w5 w') (by kernel_rfl) rfl (by kernel_rfl) (by kernel_rfl) (H8.out.1) rfl ?_
          intro KP RP TP hKP hTP hTP'
          simp only [List.append_eq, List.cons_append, List.nil_append, pick, nth]
          generalize w7.drew = w8 at *
          generalize w6.heap.size = g at *
          go_wp2_with (first
            | (apply SeqP.skip; rfl; simp only [Act.put, List.setIfInBounds_toArray, List.set_cons_zero, List.set_cons_succ])
            | (apply SeqP.call; rfl; rfl; (intro w2 hw; have hw := hTP _ hw; ((obtain ⟨⟨q1, q2, q3⟩, q8, p3, p4⟩ := FB _ hw)); go_simp; exact ⟨rfl, rfl⟩); (intro w2 hw; have hw := hTP _ hw; ((obtain ⟨⟨q1, q2, q3⟩, q8, p3, p4⟩ := FB _ hw)); (first | fail)); simp only [Act.put, List.setIfInBounds_toArray, List.set_cons_zero, List.set_cons_succ])
            | (apply SeqP.pure; rfl; (intro w2 hw; have hw := hTP _ hw; ((obtain ⟨⟨q1, q2, q3⟩, q8, p3, p4⟩ := FB _ hw)); go_simp; with_reducible rfl); simp only [Act.put, List.setIfInBounds_toArray, List.set_cons_zero, List.set_cons_succ])
            | (apply SeqP.split; rfl; rfl; all_goals (intro hc; simp only [hc]; try simp only [beq_iff_eq, decide_eq_true_eq, beq_eq_false_iff_ne, decide_eq_false_iff_not, bne_iff_ne, ne_eq, Bool.not_eq_true', Bool.not_eq_false', Int.not_le, Int.not_lt, bne_eq_false_iff_eq, Bool.or_eq_true, Bool.and_eq_true, Bool.or_eq_false_iff] at hc)))
          have h8 := H8.out
          have h9 := h8.set 5 (.int .i64 r.view)
          have h10 := h9.set 9 (.slice sl.1 sl.2.1 sl.2.2)
          have h11 := h10.set 7 (.int .i64 r.com)
          have h12 := h11.set 8 (.int .i64 x.m.stamp)
          have HP := Lib.hid (And.intro h8 (And.intro h9 (And.intro h10 (And.intro h11 h12))))
          have c5 : w8.cell? ⟨g, 5, none⟩ = some (.int .i64 0) := h8.2.1.cell 5
          have z5 : w8.frozen? ⟨g, 5, none⟩ = false := h8.2.1.frozen 5
          have c9 : w8.cell? ⟨g, 9, none⟩ = some (.slice none 0 0) := h8.2.1.cell 9
          have z9 : w8.frozen? ⟨g, 9, none⟩ = false := h8.2.1.frozen 9
          have c7 : w8.cell? ⟨g, 7, none⟩ = some (.int .i64 0) := h8.2.1.cell 7
          have z7 : w8.frozen? ⟨g, 7, none⟩ = false := h8.2.1.frozen 7
          have c8 : w8.cell? ⟨g, 8, none⟩ = some (.int .i64 0) := h8.2.1.cell 8
          have z8 : w8.frozen? ⟨g, 8, none⟩ = false := h8.2.1.frozen 8
          clear h8 h9 h10 h11 h12 H8
          apply SeqP.eff
          · rfl
          intro KE hKE
          go_wp2_with fail
          refine hKE _ _ (hTP' _ HP.out.2.1.1) ?_
          clear hKE KE
          go_wp2_with (first
            | (apply SeqP.skip; rfl; simp only [Act.put, List.setIfInBounds_toArray, List.set_cons_zero, List.set_cons_succ])
            | (apply SeqP.call; rfl; rfl; (intro w2 hw; have hw := hTP _ hw; (skip); go_simp; exact ⟨rfl, rfl⟩); (intro w2 hw; have hw := hTP _ hw; (skip); (first | fail)); simp only [Act.put, List.setIfInBounds_toArray, List.set_cons_zero, List.set_cons_succ])
            | (apply SeqP.pure; rfl; (intro w2 hw; have hw := hTP _ hw; (skip); go_simp; with_reducible rfl); simp only [Act.put, List.setIfInBounds_toArray, List.set_cons_zero, List.set_cons_succ])
            | (apply SeqP.split; rfl; rfl; all_goals (intro hc; simp only [hc]; try simp only [beq_iff_eq, decide_eq_true_eq, beq_eq_false_iff_ne, decide_eq_false_iff_not, bne_iff_ne, ne_eq, Bool.not_eq_true', Bool.not_eq_false', Int.not_le, Int.not_lt, bne_eq_false_iff_eq, Bool.or_eq_true, Bool.and_eq_true, Bool.or_eq_false_iff] at hc)))
          apply SeqP.eff
          · rfl
          intro KE hKE
          go_wp2_with fail
          refine hKE _ _ (hTP' _ HP.out.2.2.1.1) ?_
          clear hKE KE
          go_wp2_with (first
            | (apply SeqP.skip; rfl; simp only [Act.put, List.setIfInBounds_toArray, List.set_cons_zero, List.set_cons_succ])
            | (apply SeqP.call; rfl; rfl; (intro w2 hw; have hw := hTP _ hw; (skip); go_simp; exact ⟨rfl, rfl⟩); (intro w2 hw; have hw := hTP _ hw; (skip); (first | fail)); simp only [Act.put, List.setIfInBounds_toArray, List.set_cons_zero, List.set_cons_succ])
            | (apply SeqP.pure; rfl; (intro w2 hw; have hw := hTP _ hw; (skip); go_simp; with_reducible rfl); simp only [Act.put, List.setIfInBounds_toArray, List.set_cons_zero, List.set_cons_succ])
            | (apply SeqP.split; rfl; rfl; all_goals (intro hc; simp only [hc]; try simp only [beq_iff_eq, decide_eq_true_eq, beq_eq_false_iff_ne, decide_eq_false_iff_not, bne_iff_ne, ne_eq, Bool.not_eq_true', Bool.not_eq_false', Int.not_le, Int.not_lt, bne_eq_false_iff_eq, Bool.or_eq_true, Bool.and_eq_true, Bool.or_eq_false_iff] at hc)))
          apply SeqP.eff
          · rfl
          intro KE hKE
          go_wp2_with fail
          refine hKE _ _ (hTP' _ HP.out.2.2.2.1.1) ?_
          clear hKE KE
          go_wp2_with (first
            | (apply SeqP.skip; rfl; simp only [Act.put, List.setIfInBounds_toArray, List.set_cons_zero, List.set_cons_succ])
            | (apply SeqP.call; rfl; rfl; (intro w2 hw; have hw := hTP _ hw; (skip); go_simp; exact ⟨rfl, rfl⟩); (intro w2 hw; have hw := hTP _ hw; (skip); (first | fail)); simp only [Act.put, List.setIfInBounds_toArray, List.set_cons_zero, List.set_cons_succ])
            | (apply SeqP.pure; rfl; (intro w2 hw; have hw := hTP _ hw; (skip); go_simp; with_reducible rfl); simp only [Act.put, List.setIfInBounds_toArray, List.set_cons_zero, List.set_cons_succ])
            | (apply SeqP.split; rfl; rfl; all_goals (intro hc; simp only [hc]; try simp only [beq_iff_eq, decide_eq_true_eq, beq_eq_false_iff_ne, decide_eq_false_iff_not, bne_iff_ne, ne_eq, Bool.not_eq_true', Bool.not_eq_false', Int.not_le, Int.not_lt, bne_eq_false_iff_eq, Bool.or_eq_true, Bool.and_eq_true, Bool.or_eq_false_iff] at hc)))
          apply SeqP.eff
          · rfl
          intro KE hKE
          go_wp2_with fail
          refine hKE _ _ (hTP' _ HP.out.2.2.2.2.1) ?_
          clear hKE KE
          go_wp2_with (first
            | (apply SeqP.skip; rfl; simp only [Act.put, List.setIfInBounds_toArray, List.set_cons_zero, List.set_cons_succ])
            | (apply SeqP.call; rfl; rfl; (intro w2 hw; have hw := hTP _ hw; (skip); go_simp; exact ⟨rfl, rfl⟩); (intro w2 hw; have hw := hTP _ hw; (skip); (first | fail)); simp only [Act.put, List.setIfInBounds_toArray, List.set_cons_zero, List.set_cons_succ])
            | (apply SeqP.pure; rfl; (intro w2 hw; have hw := hTP _ hw; (skip); go_simp; with_reducible rfl); simp only [Act.put, List.setIfInBounds_toArray, List.set_cons_zero, List.set_cons_succ])
            | (apply SeqP.split; rfl; rfl; all_goals (intro hc; simp only [hc]; try simp only [beq_iff_eq, decide_eq_true_eq, beq_eq_false_iff_ne, decide_eq_false_iff_not, bne_iff_ne, ne_eq, Bool.not_eq_true', Bool.not_eq_false', Int.not_le, Int.not_lt, bne_eq_false_iff_eq, Bool.or_eq_true, Bool.and_eq_true, Bool.or_eq_false_iff] at hc)))
          apply SeqP.nil
          refine hKP _ _ (hTP' _ (HP.out.2.2.2.2.1)) ?_
          clear hKP hTP hTP'
          have hcs : ((((mailv (backV x.m 2 x.m.epoch)).set 5 (.int .i64 r.view)).set 9 (.slice sl.1 sl.2.1 sl.2.2)).set 7 (.int .i64 r.com)).set 8 (.int .i64 x.m.stamp) = mailv (promV r x.m sl) := rfl
          have h13 := HP.out.2.2.2.2
          rw [hcs] at h13
          clear HP hcs c5 z5 c9 z9 c7 z7 c8 z8
          generalize (((w8.setCell ⟨g, 5, none⟩ (.int .i64 r.view)).setCell ⟨g, 9, none⟩ (.slice sl.1 sl.2.1 sl.2.2)).setCell ⟨g, 7, none⟩ (.int .i64 r.com)).setCell ⟨g, 8, none⟩ (.int .i64 x.m.stamp) = wy at h13 ⊢
          have H14 := Lib.hid (h13.keep (Below.refl _ _).drew)
          clear h13
          go_wp2_with fail
          obtain ⟨pv, hpv⟩ : ∃ pv, promV r x.m sl = pv := ⟨_, rfl⟩
          have hPX : pv.m = promM r x.m ∧ pv.o = (0, 0, 0, 0, 0) ∧ pv.an = (0, 0, 0) ∧ pv.es = sl := by rw [← hpv]; exact ⟨rfl, rfl, rfl, rfl⟩
          have HX := Lib.hid hPX
          rw [hpv] at H14
          clear hPX hpv
          refine wp_region_t (.quiet 0 (.quiet 1 (.quiet 2 (.quiet 3 (.quiet 4 (.quiet 6 (.two 5 7 (.quiet 8 (.one 7 (.quiet 9 .done))) (.one 5 (.quiet 8 (.quiet 9 .done)))))))))) (fun w' => Below w5.heap.size w5 w' ∧ Blk w' g 43 (mailv pv)) (by kernel_rfl) (by kernel_rfl) (by kernel_rfl) (by kernel_rfl) (⟨H14.out.1, H14.out.2.1⟩) rfl ?_
          intro KP RP TP hKP hTP hTP'
          simp only [Sch.fill, nth]
          generalize wy.drew = wz at *
          go_wp2_with (first
            | (apply SeqT.skip; rfl; simp only [Act.put, List.setIfInBounds_toArray, List.set_cons_zero, List.set_cons_succ])
            | (apply SeqT.pure; rfl; (intro w2 hw; have hw := hTP _ hw; exact exec_load_blk 43 _ rfl _ rfl _ _ (hw.2) _ Try.underlying43 rfl mail_info); simp only [Act.put, List.setIfInBounds_toArray, List.set_cons_zero, List.set_cons_succ])
            | (apply SeqT.pure; rfl; (intro w2 hw; have hw := hTP _ hw; ((obtain ⟨⟨q1, q2, q3⟩, q8, p3, p4⟩ := FB _ hw.1)); go_simp; with_reducible rfl); simp only [Act.put, List.setIfInBounds_toArray, List.set_cons_zero, List.set_cons_succ]))
          have hx0 : LogAt wz wz.heap.size (recPV x.m).es (recPV x.m).ents := LogAt.nil
          have hy0 : LogAt wz wz.heap.size pv.es pv.m.ents := by rw [HX.out.2.2.2, HX.out.1]; exact H5.out.2.2.1.keep H14.out.1
          have hwz := H14.out.1
          have ha1 := answer12 wz (recPV x.m) pv ⟨[recP x.m], [promM r x.m], 1⟩ hx0 hy0 rfl (by rw [HX.out.1]) rfl ⟨HX.out.2.1, HX.out.2.2.1⟩
          have ha2 := answer21 wz (recPV x.m) pv ⟨[recP x.m], [promM r x.m], 1⟩ hx0 hy0 rfl (by rw [HX.out.1]) rfl ⟨HX.out.2.1, HX.out.2.2.1⟩
          have hk1 := (hwz.alloc hwz.size (.cells (rcv (recPV x.m)).toArray 53)).alloc (by have := hwz.size; simp; omega) (.cells (mailv pv).toArray 43)
          have hk2 := (hwz.alloc hwz.size (.cells (mailv pv).toArray 43)).alloc (by have := hwz.size; simp; omega) (.cells (rcv (recPV x.m)).toArray 53)
          have HA := Lib.hid (And.intro (And.intro ha1 hk1) (And.intro ha2 hk2))
          clear hx0 hy0 hwz ha1 ha2 hk1 hk2
          have HR : Hid (∀ W, Below w5.heap.size w5 W → RB W rb gr (bookE 1 E U x.m.stream x.m.epoch) (bookU 1 E U x.m.stream x.m.epoch now)) := Lib.hid (fun W h => by unfold bookE bookU; rw [if_pos rfl, if_pos rfl]; exact Blk.keep H5.out.2.2.2.1 h)
          unfold mailv
          apply SeqT.two
          · apply EffT.go
            · rfl
            intro KE hKE
            go_wp2_with fail
            refine hKE _ _ (hTP' _ (⟨H14.out.1.alloc H14.out.1.size _, H14.out.2.1.alloc _⟩)) ?_
            clear hKE KE
            go_wp2_with (first
              | (apply SeqT.skip; rfl; simp only [Act.put, List.setIfInBounds_toArray, List.set_cons_zero, List.set_cons_succ])
              
              | (apply SeqT.pure; rfl; (intro w2 hw; have hw := hTP _ hw; (skip); go_simp; with_reducible rfl); simp only [Act.put, List.setIfInBounds_toArray, List.set_cons_zero, List.set_cons_succ]))
            apply SeqT.one
            apply EffT.go
            · rfl
            intro KE hKE
            go_wp2_with fail
            refine hKE _ _ (hTP' _ (⟨HA.out.1.2, (H14.out.2.1.alloc _).alloc _⟩)) ?_
            clear hKE KE
            go_wp2_with (first
              | (apply SeqT.skip; rfl; simp only [Act.put, List.setIfInBounds_toArray, List.set_cons_zero, List.set_cons_succ])
              
              | (apply SeqT.pure; rfl; (intro w2 hw; have hw := hTP _ hw; (skip); go_simp; with_reducible rfl); simp only [Act.put, List.setIfInBounds_toArray, List.set_cons_zero, List.set_cons_succ]))
            apply SeqT.done
            refine hKP _ _ (hTP' _ ⟨HA.out.1.2, (H14.out.2.1.alloc _).alloc _⟩) ?_
            clear hKP hTP hTP'
            go_wp2_with fail
            go_ret2
            rw [HS.out]
            exact ⟨HA.out.1.1, HR.out _ HA.out.1.2, H5.out.2.2.2.2.trans (Kept.ofBelow HA.out.1.2 _ _)⟩
          · apply EffT.go
            · rfl
            intro KE hKE
            go_wp2_with fail
            refine hKE _ _ (hTP' _ (⟨H14.out.1.alloc H14.out.1.size _, H14.out.2.1.alloc _⟩)) ?_
            clear hKE KE
            go_wp2_with (first
              | (apply SeqT.skip; rfl; simp only [Act.put, List.setIfInBounds_toArray, List.set_cons_zero, List.set_cons_succ])
              
              | (apply SeqT.pure; rfl; (intro w2 hw; have hw := hTP _ hw; (skip); go_simp; with_reducible rfl); simp only [Act.put, List.setIfInBounds_toArray, List.set_cons_zero, List.set_cons_succ]))
            apply SeqT.one
            apply EffT.go
            · rfl
            intro KE hKE
            go_wp2_with fail
            refine hKE _ _ (hTP' _ (⟨HA.out.2.2, (H14.out.2.1.alloc _).alloc _⟩)) ?_
            clear hKE KE
            go_wp2_with (first
              | (apply SeqT.skip; rfl; simp only [Act.put, List.setIfInBounds_toArray, List.set_cons_zero, List.set_cons_succ])
              
              | (apply SeqT.pure; rfl; (intro w2 hw; have hw := hTP _ hw; (skip); go_simp; with_reducible rfl); simp only [Act.put, List.setIfInBounds_toArray, List.set_cons_zero, List.set_cons_succ]))
            apply SeqT.done
            refine hKP _ _ (hTP' _ ⟨HA.out.2.2, (H14.out.2.1.alloc _).alloc _⟩) ?_
            clear hKP hTP hTP'
            go_wp2_with fail
            go_ret2
            rw [HS.out]
            exact ⟨HA.out.2.1, HR.out _ HA.out.2.2, H5.out.2.2.2.2.trans (Kept.ofBelow HA.out.2.2 _ _)⟩
      · have HS := Lib.hid (take_4 (may := may) HOK.out hk)
        rw [hk] at f0
        clear hk
        go_wp2_with ((with_reducible refine at_list ?_); first | refine wpList_load_blk rfl 37 _ rfl _ rfl _ _ _ (H1.out.1.2.1) Try.underlying37 rfl rg_info ?_ | refine wpList_load_blk rfl 43 _ rfl _ rfl _ _ _ (H1.out.1.2.2.1) Try.underlying43 rfl mail_info ?_)
        refine (rdlay_any r sl rb gr E U x now w1 H1.out.2.2 HZ.out HK.out.1 HK.out.2.1 H1.out.1.2.2.2 H1.out.2.1 HK.out.2.2.2.2 HOK.out).mono ?_
        rintro e w2 ⟨hA, hB2, hK2⟩
        obtain ⟨A1, d1, A2, d2, xs, ys, rfl, hrest⟩ := hA
        have H2 := Lib.hid (And.intro hrest (And.intro hB2 ((Kept.ofBelow H1.out.1.1 (some rb) none).trans hK2)))
        clear hrest hB2 hK2 H1 f0 f3 f4 f6 c1 c2 c3 c4 c5
        go_wp2_with fail
        go_ret2
        rw [HS.out]
        exact ⟨⟨A1, d1, A2, d2, xs, ys, rfl, H2.out.1⟩, H2.out.2⟩
      · have HS := Lib.hid (take_9 (may := may) HOK.out hk)
        rw [hk] at f0
        clear hk
        go_wp2_with fail
        refine (rrelease_any rb gr E U x.m.stream x.m.epoch w1 H1.out.2.2).mono ?_
        rintro e w2 ⟨rfl, hB2, hg2⟩
        have H2 := Lib.hid (And.intro hB2 ((Kept.ofBelow H1.out.1.1 (some rb) none).trans (Kept.ofGrown hg2)))
        clear hB2 hg2 H1 f0 f3 f4 f6 c1 c2 c3 c4 c5
        go_wp2_with fail
        go_ret2
        rw [HS.out]
        exact ⟨Answer.nothing, by show RB _ rb gr (bookE 2 E U x.m.stream x.m.epoch) (bookU 2 E U x.m.stream x.m.epoch now); unfold bookE bookU; rw [if_neg (by decide), if_neg (by decide), if_pos rfl]; exact H2.out.1, H2.out.2⟩
      · have HS := Lib.hid (take_else (r := r) (may := may) k1 k4 k9)
        have e1 : (x.m.kind == 1) = false := by simpa using k1
        have e4 : (x.m.kind == 4) = false := by simpa using k4
        have e9 : (x.m.kind == 9) = false := by simpa using k9
        clear k1 k4 k9
        go_wp2_with fail
        go_ret2
        rw [HS.out]
        exact RTakeP.pure rfl Answer.nothing HB.out H1.out.1.1
end Go.Proofs.Ytdphfhenjndkkaa

set_option linter.unusedSimpArgs false
set_option linter.unusedVariables false
set_option maxRecDepth 100000
namespace Go.Proofs.Ytdphfhenjndkkaa
open Go Go.RowKit Go.Sq Go.Wd Go.Arch

theorem eql_ord19 (w : World) (o : Int × Int × Int × Int × Int) : (binOp .eql 39 (.agg #[.int .i64 o.1, .int .i64 o.2.1, .int .i64 o.2.2.1, .int .i64 o.2.2.2.1, .int .i64 o.2.2.2.2]) (.agg #[.int .i64 o.1, .int .i64 o.2.1, .int .i64 o.2.2.1, .int .i64 o.2.2.2.1, .int .i64 o.2.2.2.2])).run Try.prog w = .ok (.bool true) w := by
  have g0 := Try.underlying39
  simp [go_sem]
theorem eql_ans19 (w : World) (o : Int × Int × Int) : (binOp .eql 41 (.agg #[.int .i64 o.1, .int .i64 o.2.1, .int .i64 o.2.2]) (.agg #[.int .i64 o.1, .int .i64 o.2.1, .int .i64 o.2.2])).run Try.prog w = .ok (.bool true) w := by
  have g0 := Try.underlying41
  simp [go_sem]

set_option maxHeartbeats 8000000 in
theorem samemail_any (x y : MailV) (w : World) (hm : y.m = x.m) (ho : y.o = x.o) (ha : y.an = x.an) (hx : LogAt w w.heap.size x.es x.m.ents) (hy : LogAt w w.heap.size y.es y.m.ents) :
    Calls Try.prog 20 #[.agg (mailv x).toArray, .agg (mailv y).toArray] w fun e w' => e = .returned (.bool true) ∧ Below w.heap.size w w' := by
  obtain ⟨m, es, o, an⟩ := x
  obtain ⟨m', es', o', an'⟩ := y
  obtain rfl : m' = m := hm
  obtain rfl : o' = o := ho
  obtain rfl : an' = an := ha
  obtain ⟨A, n, c⟩ := es
  obtain ⟨B, k, d⟩ := es'
  obtain rfl : n = m'.ents.length := hx.1
  obtain rfl : k = m'.ents.length := hy.1
  have hle : m'.ents.length ≤ 9223372036854775807 := Nat.le_trans hx.2.1 hx.2.2.1
  have hz := ((Below.refl w.heap.size w).alloc (Nat.le_refl _) (.cells (mailv ⟨m', (A, m'.ents.length, c), o', an'⟩).toArray 43)).alloc (by simp) (.cells (mailv ⟨m', (B, m'.ents.length, d), o', an'⟩).toArray 43)
  have B1 := (Blk.new w 43 (mailv ⟨m', (A, m'.ents.length, c), o', an'⟩)).alloc (.cells (mailv ⟨m', (B, m'.ents.length, d), o', an'⟩).toArray 43)
  have B2 := Blk.new (w.alloc (.cells (mailv ⟨m', (A, m'.ents.length, c), o', an'⟩).toArray 43)) 43 (mailv ⟨m', (B, m'.ents.length, d), o', an'⟩)
  have hs := same_any m'.ents m'.ents A B c d _ (hx.keep hz).2.2.2 (hy.keep hz).2.2.2 hle hle
  rw [decide_eq_true rfl] at hs
  have r1 : World.rangeAt _ w.heap.size 10 [.int .i64 o'.1, .int .i64 o'.2.1, .int .i64 o'.2.2.1, .int .i64 o'.2.2.2.1, .int .i64 o'.2.2.2.2] := B1.range (by intro j hj; match j, hj with | 0, _ => rfl | 1, _ => rfl | 2, _ => rfl | 3, _ => rfl | 4, _ => rfl)
  have r2 : World.rangeAt _ _ 10 [.int .i64 o'.1, .int .i64 o'.2.1, .int .i64 o'.2.2.1, .int .i64 o'.2.2.2.1, .int .i64 o'.2.2.2.2] := B2.range (by intro j hj; match j, hj with | 0, _ => rfl | 1, _ => rfl | 2, _ => rfl | 3, _ => rfl | 4, _ => rfl)
  have r3 : World.rangeAt _ w.heap.size 15 [.int .i64 an'.1, .int .i64 an'.2.1, .int .i64 an'.2.2] := B1.range (by intro j hj; match j, hj with | 0, _ => rfl | 1, _ => rfl | 2, _ => rfl)
  have r4 : World.rangeAt _ _ 15 [.int .i64 an'.1, .int .i64 an'.2.1, .int .i64 an'.2.2] := B2.range (by intro j hj; match j, hj with | 0, _ => rfl | 1, _ => rfl | 2, _ => rfl)
  have HH := Lib.hid (And.intro hz (And.intro hs (And.intro r1 (And.intro r2 (And.intro r3 r4)))))
  clear hz hs hx hy B1 B2 r1 r2 r3 r4
  unfold mailv at HH ⊢
  go_enter Try.func20, Try.ntmps20
  go_wp2_with ((with_reducible refine at_list ?_); first | (refine wpList_load_range_g 39 _ rfl rfl _ 10 rfl _ _ HH.out.2.2.1 Try.underlying39 rfl rfl ?_) | (refine wpList_load_range_g 39 _ rfl rfl _ 10 rfl _ _ HH.out.2.2.2.1 Try.underlying39 rfl rfl ?_) | (refine wpList_load_range_g 41 _ rfl rfl _ 15 rfl _ _ HH.out.2.2.2.2.1 Try.underlying41 rfl rfl ?_) | (refine wpList_load_range_g 41 _ rfl rfl _ 15 rfl _ _ HH.out.2.2.2.2.2 Try.underlying41 rfl rfl ?_) | (refine wpList_agg_g rfl rfl Try.eqGuardType39 rfl rfl (eql_ord19 _ o') ?_) | (refine wpList_agg_g rfl rfl Try.eqGuardType41 rfl rfl (eql_ans19 _ an') ?_))
  refine HH.out.2.1.mono ?_
  rintro e w1 ⟨rfl, hb⟩
  have hw1 := below_trans HH.out.1 hb HH.out.1.size
  clear hb HH
  go_wp2_with fail
  go_ret
  exact ⟨by simp, hw1⟩
end Go.Proofs.Ytdphfhenjndkkaa

set_option linter.unusedSimpArgs false
set_option linter.unusedVariables false
set_option maxRecDepth 100000
namespace Go.Proofs.Ytdphfhenjndkkaa
open Go Go.RowKit Go.Sq Go.Wd Go.Arch

theorem map_at {α β : Type} {f : α → β} {l m : List α} (h : m.map f = l.map f) {j : Nat} {x y : α} (hx : l[j]? = some x) (hy : m[j]? = some y) : f y = f x := by
  have h1 := congrArg (fun z => z[j]?) h
  simp only [List.getElem?_map, hx, hy, Option.map_some] at h1
  exact Option.some.inj h1
theorem map_length_eq {α β : Type} {f : α → β} {l m : List α} (h : m.map f = l.map f) : m.length = l.length := by
  have h1 := congrArg List.length h
  rwa [List.length_map, List.length_map] at h1

set_option maxHeartbeats 8000000 in
theorem same19_any (xs us : List RecV) (ys zs : List MailV) (A B C D : Option Addr) (ca cb cc cd : Nat) (w : World) (hx : Rcs w w.heap.size A xs) (hu : Rcs w w.heap.size B us) (hy : Mails w w.heap.size C ys) (hz : Mails w w.heap.size D zs)
    (h1 : us.map RecV.s = xs.map RecV.s) (h2 : zs.map MailV.m = ys.map MailV.m) (f1 : ∀ x ∈ xs, x.fs = (none, 0, 0)) (f2 : ∀ x ∈ us, x.fs = (none, 0, 0)) (o1 : ∀ y ∈ ys, y.o = (0, 0, 0, 0, 0) ∧ y.an = (0, 0, 0)) (o2 : ∀ y ∈ zs, y.o = (0, 0, 0, 0, 0) ∧ y.an = (0, 0, 0)) (n1 : xs.length ≤ 1000) (n2 : ys.length ≤ 1000) :
    Calls Try.prog 16 #[.slice A xs.length ca, .slice B xs.length cb, .slice C ys.length cc, .slice D ys.length cd] w fun e w' => e = .returned (.bool true) ∧ Below w.heap.size w w' := by
  have hw := Below.refl w.heap.size w
  have HX := Lib.hid (And.intro hx (And.intro hu (And.intro h1 (And.intro f1 (And.intro f2 (map_length_eq h1))))))
  have HY := Lib.hid (And.intro hy (And.intro hz (And.intro h2 (And.intro o1 (And.intro o2 (map_length_eq h2))))))
  clear hx hu hy hz h1 h2 f1 f2 o1 o2
  go_enter Try.func16, Try.ntmps16
  go_wp2_with fail
  go_loopg [9] xs.length (fun k i wr => ∃ j : Nat, k = xs.length - j ∧ j ≤ xs.length ∧ i = .int .i64 j ∧ Below w.heap.size w wr)
  case atStart => exact ⟨0, rfl, by omega, rfl, hw⟩
  case round =>
    clear hw
    obtain ⟨j, hk, hj, rfl, hwr⟩ := hrel
    have AA : Aside (gk = xs.length - j) := hk
    clear hk
    by_cases hlt : j < xs.length
    · obtain ⟨b1, p1, x, rfl, hx, FA, HLX⟩ := HX.out.1.range hlt
      obtain ⟨b2, p2, u, rfl, hu, FB, HLU⟩ := HX.out.2.1.range (k := j) (by rw [HX.out.2.2.2.2.2]; exact hlt)
      have HS := Lib.hid (map_at HX.out.2.2.1 hx.out hu.out)
      have HFA := Lib.hid FA
      have HFB := Lib.hid FB
      have HF := Lib.hid (And.intro (HX.out.2.2.2.1 x (List.mem_of_getElem? hx.out)) (HX.out.2.2.2.2.1 u (List.mem_of_getElem? hu.out)))
      have HW := Lib.hid hwr.drew
      clear FA FB hx hu hwr
      go_wp2_with fail
      refine wp_region_p ([(0, true), (1, true), (2, true), (3, true), (4, true), (5, true), (6, true), (7, true), (8, false), (9, true)]) (fun w' => Below w.heap.size w w') (by kernel_rfl) rfl (by kernel_rfl) (by kernel_rfl) (HW.out) rfl ?_
      intro KP RP TP hKP hTP hTP'
      simp only [pick, nth]
      generalize wr.drew = wd at *
      go_wp2_with (first
        | (apply SeqP.skip; rfl; simp only [Act.put, List.setIfInBounds_toArray, List.set_cons_zero, List.set_cons_succ])
        | (apply SeqP.pure; rfl; (intro w9 hw9; have hw9 := hTP _ hw9; exact exec_load_range 53 _ rfl _ _ rfl _ (HFA.out _ hw9) _ Try.underlying53 rfl rc_info); simp only [Act.put, List.setIfInBounds_toArray, List.set_cons_zero, List.set_cons_succ]) | (apply SeqP.pure; rfl; (intro w9 hw9; have hw9 := hTP _ hw9; exact exec_load_range 53 _ rfl _ _ rfl _ (HFB.out _ hw9) _ Try.underlying53 rfl rc_info); simp only [Act.put, List.setIfInBounds_toArray, List.set_cons_zero, List.set_cons_succ])
        | (apply SeqP.call; rfl; rfl; (intro w2 hw; have hw := hTP _ hw; (skip); go_simp; exact ⟨rfl, rfl⟩); (intro w2 hw; have hw := hTP _ hw; (skip); (first | fail)); simp only [Act.put, List.setIfInBounds_toArray, List.set_cons_zero, List.set_cons_succ])
        | (apply SeqP.pure; rfl; (intro w2 hw; have hw := hTP _ hw; (skip); go_simp; with_reducible rfl); simp only [Act.put, List.setIfInBounds_toArray, List.set_cons_zero, List.set_cons_succ])
        | (apply SeqP.split; rfl; rfl; all_goals (intro hc; simp only [hc]; try simp only [beq_iff_eq, decide_eq_true_eq, beq_eq_false_iff_ne, decide_eq_false_iff_not, bne_iff_ne, ne_eq, Bool.not_eq_true', Bool.not_eq_false', Int.not_le, Int.not_lt, bne_eq_false_iff_eq, Bool.or_eq_true, Bool.and_eq_true, Bool.or_eq_false_iff] at hc)))
      apply SeqP.eff
      · rfl
      intro KE hKE
      go_wp2_with fail
      refine (samerec_any x u wd HS.out HF.out.1 HF.out.2 ((HLX.out.below HW.out).more HW.out.size) ((HLU.out.below HW.out).more HW.out.size)).mono ?_
      rintro e we ⟨rfl, hb⟩
      have hbe := below_trans HW.out hb HW.out.size
      refine hKE _ _ (hTP' _ hbe) ?_
      clear hKE KE
      go_wp2_with (first
        | (apply SeqP.skip; rfl; simp only [Act.put, List.setIfInBounds_toArray, List.set_cons_zero, List.set_cons_succ])
        | (apply SeqP.call; rfl; rfl; (intro w2 hw; have hw := hTP _ hw; (skip); go_simp; exact ⟨rfl, rfl⟩); (intro w2 hw; have hw := hTP _ hw; (skip); (first | fail)); simp only [Act.put, List.setIfInBounds_toArray, List.set_cons_zero, List.set_cons_succ])
        | (apply SeqP.pure; rfl; (intro w2 hw; have hw := hTP _ hw; (skip); go_simp; with_reducible rfl); simp only [Act.put, List.setIfInBounds_toArray, List.set_cons_zero, List.set_cons_succ])
        | (apply SeqP.split; rfl; rfl; all_goals (intro hc; simp only [hc]; try simp only [beq_iff_eq, decide_eq_true_eq, beq_eq_false_iff_ne, decide_eq_false_iff_not, bne_iff_ne, ne_eq, Bool.not_eq_true', Bool.not_eq_false', Int.not_le, Int.not_lt, bne_eq_false_iff_eq, Bool.or_eq_true, Bool.and_eq_true, Bool.or_eq_false_iff] at hc)))
      apply SeqP.nil
      refine hKP _ _ (hTP' _ (hbe)) ?_
      clear hKP hTP hTP'
      go_wp2_with fail
      go_roundg (xs.length - (j + 1))
      case measure => have hkk := AA.out; omega
      case rel => exact ⟨j + 1, rfl, by omega, by go_num, hbe⟩
    · obtain rfl : j = xs.length := by omega
      have HW0 := Lib.hid hwr
      clear HX hwr
      go_wp2_with fail
      go_loopg [10] ys.length (fun k i wr => ∃ j : Nat, k = ys.length - j ∧ j ≤ ys.length ∧ i = .int .i64 j ∧ Below w.heap.size w wr)
      case atStart => exact ⟨0, rfl, by omega, rfl, HW0.out⟩
      case round =>
        clear HW0
        obtain ⟨j, hk, hj, rfl, hwr⟩ := hrel
        have AA : Aside (gk = ys.length - j) := hk
        clear hk
        by_cases hlt : j < ys.length
        · obtain ⟨b1, p1, x, rfl, hx, FA, HLX⟩ := HY.out.1.range hlt
          obtain ⟨b2, p2, u, rfl, hu, FB, HLU⟩ := HY.out.2.1.range (k := j) (by rw [HY.out.2.2.2.2.2]; exact hlt)
          have HS := Lib.hid (map_at HY.out.2.2.1 hx.out hu.out)
          have HFA := Lib.hid FA
          have HFB := Lib.hid FB
          have HF := Lib.hid (And.intro (HY.out.2.2.2.1 x (List.mem_of_getElem? hx.out)) (HY.out.2.2.2.2.1 u (List.mem_of_getElem? hu.out)))
          have HW := Lib.hid hwr.drew
          clear FA FB hx hu hwr
          go_wp2_with fail
          refine wp_region_p ([(0, true), (1, true), (2, true), (3, true), (4, true), (5, true), (6, true), (7, true), (8, false), (9, true)]) (fun w' => Below w.heap.size w w') (by kernel_rfl) rfl (by kernel_rfl) (by kernel_rfl) (HW.out) rfl ?_
          intro KP RP TP hKP hTP hTP'
          simp only [pick, nth]
          generalize wr.drew = wd at *
          go_wp2_with (first
            | (apply SeqP.skip; rfl; simp only [Act.put, List.setIfInBounds_toArray, List.set_cons_zero, List.set_cons_succ])
            | (apply SeqP.pure; rfl; (intro w9 hw9; have hw9 := hTP _ hw9; exact exec_load_range 43 _ rfl _ _ rfl _ (HFA.out _ hw9) _ Try.underlying43 rfl mail_info); simp only [Act.put, List.setIfInBounds_toArray, List.set_cons_zero, List.set_cons_succ]) | (apply SeqP.pure; rfl; (intro w9 hw9; have hw9 := hTP _ hw9; exact exec_load_range 43 _ rfl _ _ rfl _ (HFB.out _ hw9) _ Try.underlying43 rfl mail_info); simp only [Act.put, List.setIfInBounds_toArray, List.set_cons_zero, List.set_cons_succ])
            | (apply SeqP.call; rfl; rfl; (intro w2 hw; have hw := hTP _ hw; (skip); go_simp; exact ⟨rfl, rfl⟩); (intro w2 hw; have hw := hTP _ hw; (skip); (first | fail)); simp only [Act.put, List.setIfInBounds_toArray, List.set_cons_zero, List.set_cons_succ])
            | (apply SeqP.pure; rfl; (intro w2 hw; have hw := hTP _ hw; (skip); go_simp; with_reducible rfl); simp only [Act.put, List.setIfInBounds_toArray, List.set_cons_zero, List.set_cons_succ])
            | (apply SeqP.split; rfl; rfl; all_goals (intro hc; simp only [hc]; try simp only [beq_iff_eq, decide_eq_true_eq, beq_eq_false_iff_ne, decide_eq_false_iff_not, bne_iff_ne, ne_eq, Bool.not_eq_true', Bool.not_eq_false', Int.not_le, Int.not_lt, bne_eq_false_iff_eq, Bool.or_eq_true, Bool.and_eq_true, Bool.or_eq_false_iff] at hc)))
          apply SeqP.eff
          · rfl
          intro KE hKE
          go_wp2_with fail
          refine (samemail_any x u wd HS.out (by rw [HF.out.1.1, HF.out.2.1]) (by rw [HF.out.1.2, HF.out.2.2]) ((HLX.out.below HW.out).more HW.out.size) ((HLU.out.below HW.out).more HW.out.size)).mono ?_
          rintro e we ⟨rfl, hb⟩
          have hbe := below_trans HW.out hb HW.out.size
          refine hKE _ _ (hTP' _ hbe) ?_
          clear hKE KE
          go_wp2_with (first
            | (apply SeqP.skip; rfl; simp only [Act.put, List.setIfInBounds_toArray, List.set_cons_zero, List.set_cons_succ])
            | (apply SeqP.call; rfl; rfl; (intro w2 hw; have hw := hTP _ hw; (skip); go_simp; exact ⟨rfl, rfl⟩); (intro w2 hw; have hw := hTP _ hw; (skip); (first | fail)); simp only [Act.put, List.setIfInBounds_toArray, List.set_cons_zero, List.set_cons_succ])
            | (apply SeqP.pure; rfl; (intro w2 hw; have hw := hTP _ hw; (skip); go_simp; with_reducible rfl); simp only [Act.put, List.setIfInBounds_toArray, List.set_cons_zero, List.set_cons_succ])
            | (apply SeqP.split; rfl; rfl; all_goals (intro hc; simp only [hc]; try simp only [beq_iff_eq, decide_eq_true_eq, beq_eq_false_iff_ne, decide_eq_false_iff_not, bne_iff_ne, ne_eq, Bool.not_eq_true', Bool.not_eq_false', Int.not_le, Int.not_lt, bne_eq_false_iff_eq, Bool.or_eq_true, Bool.and_eq_true, Bool.or_eq_false_iff] at hc)))
          apply SeqP.nil
          refine hKP _ _ (hTP' _ (hbe)) ?_
          clear hKP hTP hTP'
          go_wp2_with fail
          go_roundg (ys.length - (j + 1))
          case measure => have hkk := AA.out; omega
          case rel => exact ⟨j + 1, rfl, by omega, by go_num, hbe⟩
        · obtain rfl : j = ys.length := by omega
          go_wp2_with fail
          go_ret
          exact ⟨rfl, hwr⟩
end Go.Proofs.Ytdphfhenjndkkaa

set_option linter.unusedSimpArgs false
set_option linter.unusedVariables false
set_option maxRecDepth 100000
namespace Go.Proofs.Ytdphfhenjndkkaa
open Go Go.RowKit Go.Sq Go.Wd Go.Arch Go.Im

theorem com_steps {q : RegS} {m : MailS} (h : mayR q = true) : ∀ y ∈ comS q m, ∃ a, applyR q y = some a := by
  intro y hy
  unfold comS at hy
  split at hy
  case isFalse => cases hy
  case isTrue hc =>
    rw [List.mem_singleton.1 hy]
    refine ⟨{ q with com := min m.len q.log.length }, ?_⟩
    unfold applyR
    rw [if_pos h, if_neg (by show ¬ (3 : Int) = 1; decide), if_neg (by show ¬ (3 : Int) = 2; decide), if_pos (by rfl), if_pos (by show q.com < min m.len q.log.length ∧ min m.len (q.log.length : Int) ≤ q.log.length; omega)]
    rfl
theorem steps_one {r : RegS} {x : RecS} {a : RegS} (h : applyR r x = some a) : ∀ j y, [x][j]? = some y → ∃ a, applyR (appliedS r ([x].take j)) y = some a := by
  intro j y hy
  cases j with
  | zero => cases hy; exact ⟨a, h⟩
  | succ j => simp at hy
theorem steps_com {q : RegS} {m : MailS} (h : mayR q = true) : ∀ j y, (comS q m)[j]? = some y → ∃ a, applyR (appliedS q ((comS q m).take j)) y = some a := by
  intro j y hy
  have hl : (comS q m).length ≤ 1 := by unfold comS; split <;> simp
  have hj := (List.getElem?_eq_some_iff.1 hy).1
  obtain rfl : j = 0 := by omega
  exact com_steps h y (List.mem_of_getElem? hy)
theorem steps_two {r q : RegS} {x : RecS} {m : MailS} (h : applyR r x = some q) : ∀ j y, ([x] ++ comS q m)[j]? = some y → ∃ a, applyR (appliedS r (([x] ++ comS q m).take j)) y = some a := by
  intro j y hy
  cases j with
  | zero => cases hy; exact ⟨q, h⟩
  | succ j =>
    have e : appliedS r (([x] ++ comS q m).take (j + 1)) = appliedS q ((comS q m).take j) := by
      show List.foldl _ ((applyR r x).getD r) ((comS q m).take j) = _
      rw [h]
      rfl
    rw [e]
    exact steps_com (apply_stays h).1 j y hy
/-- The records of an answer apply, one behind the other. -/
theorem take_steps (r : RegS) (may : Bool) (m : MailS) : ∀ j y, (takeS r may m).recs[j]? = some y → ∃ a, applyR (appliedS r ((takeS r may m).recs.take j)) y = some a := by
  have none_ : ∀ j y, ([] : List RecS)[j]? = some y → ∃ a, applyR (appliedS r (([] : List RecS).take j)) y = some a := fun j y h => by simp at h
  unfold takeS
  split
  case isFalse => exact none_
  case isTrue hok =>
    split
    · unfold prepS
      split
      case isTrue hp =>
        refine steps_one (a := { r with prom := m.epoch }) ?_
        unfold applyR
        rw [if_pos hok.1, if_pos (by rfl), if_pos ⟨hp.2, hok.2.2.2.2.2⟩]
        rfl
      case isFalse => exact none_
    · split
      · unfold layS
        split
        · exact none_
        split
        · exact none_
        split
        · exact none_
        case h_2 l q hg =>
          unfold grownS at hg
          split at hg
          · split at hg
            · cases hg
              exact steps_com hok.1
            · split at hg
              · cases hA : applyR r (recV m r.log.length ((joinM r m).drop r.log.length)) with
                | none => rw [hA] at hg; cases hg
                | some a => rw [hA] at hg; cases hg; exact steps_two hA
              · cases hg
          · cases hA : applyR r (recV m m.base m.ents) with
            | none => rw [hA] at hg; cases hg
            | some a => rw [hA] at hg; cases hg; exact steps_two hA
      · split <;> exact none_
theorem Rcs.stored {w w' : World} {g : Nat} {A : Option Addr} {l : List RecV} {T : TypeId} {cs : List Value} (h : Rcs w w.heap.size A l) (hZ : Blk w g T cs) (hc : cs.length ≤ 5) (hg : w.grownBy w' (some g)) : Rcs w' w'.heap.size A l := by
  refine ⟨fun hl => ?_, fun x hx => (h.2 x hx).stored hZ hc hg⟩
  obtain ⟨b, off, ha, hb, he⟩ := h.1 hl
  have hne : b ≠ g := by
    rintro rfl
    obtain ⟨e, h0⟩ : ∃ e, l[0]? = some e := ⟨_, List.getElem?_eq_getElem hl⟩
    have c0 := he 0 e h0 7 (by show 7 < 8; omega)
    rw [hZ.cell, List.getElem?_eq_none (by omega)] at c0
    cases c0
  have hk := hg.block b hb (fun e => hne (Option.some.inj e))
  exact ⟨b, off, ha, Nat.lt_of_lt_of_le hb hg.size, fun i e h0 k hk' => (World.cell?_of_block (a := ⟨b, _, none⟩) hk).trans (he i e h0 k hk')⟩
theorem Rcs.turned {w w' : World} {b m n : Nat} {gr : Int} {G : Int → Option (Int × Int)} {A : Option Addr} {l : List RecV} (h : Rcs w w.heap.size A l) (hB : Bk w b m n gr G) (hK : Kept w w' (some m) none) : Rcs w' w'.heap.size A l := by
  refine ⟨fun hl => ?_, fun x hx => (h.2 x hx).turned hB hK⟩
  obtain ⟨g, off, ha, hb, hc⟩ := h.1 hl
  obtain ⟨es, clock, hm⟩ := hB.map
  have hne : g ≠ m := by
    rintro rfl
    obtain ⟨e, he⟩ : ∃ e, l[0]? = some e := ⟨_, List.getElem?_eq_getElem hl⟩
    have c0 := hc 0 e he 0 (by show 0 < 8; omega)
    simp [World.cell?, hm] at c0
    cases c0
  have hk := hK.2.2.2.2 g hb (fun e => hne (Option.some.inj e)) (by simp)
  exact ⟨g, off, ha, Nat.lt_of_lt_of_le hb hK.2.2.2.1, fun i e he k hk' => (World.cell?_of_block (a := ⟨g, _, none⟩) hk).trans (hc i e he k hk')⟩
theorem Kept.toGrown {w w' : World} {r : Option Nat} (h : Kept w w' r none) : w.grownBy w' r := ⟨h.1, h.2.1, h.2.2.1, h.2.2.2.1, fun k hk a => h.2.2.2.2 k hk a (by simp)⟩
/-- Both sides. -/
def TkI (w W : World) (gr : Nat) (r : RegS) (s : SlcE) (b m n : Nat) (g0 : Int) (G : Int → Option (Int × Int)) (rb : Nat) (E U : Nat → Int) : Prop :=
  RfI w W gr r s b m n g0 G ∧ RB W rb g0 E U ∧ w.heap.size ≤ rb ∧ gr ≠ rb
section
variable {w W W' : World} {gr b m n n' rb : Nat} {r q : RegS} {s s' : SlcE} {g0 : Int} {G G' : Int → Option (Int × Int)} {E U E' U' : Nat → Int}
theorem TkI.keep (h : TkI w W gr r s b m n g0 G rb E U) (hb : Below W.heap.size W W') : TkI w W' gr r s b m n g0 G rb E U := ⟨h.1.keep hb, Blk.keep h.2.1 hb, h.2.2⟩
theorem TkI.take (h : TkI w W gr r s b m n g0 G rb E U) (hB : Bk W' b m n' g0 G') (hK : Kept W W' (some m) none) : TkI w W' gr r s b m n' g0 G' rb E U :=
  ⟨h.1.take hB hK, hK.blk h.2.1 (fun e => h.1.2.2.2.1.notBlk h.2.1 (Option.some.inj e)) (by simp), h.2.2⟩
theorem TkI.doc (h : TkI w W gr r s b m n g0 G rb E U) (hr : mayR r = true) (hz : RBz E U) (hR : RB W' rb g0 E' U') (hK : Kept W W' (some rb) none) : TkI w W' gr r s b m n g0 G rb E' U' := by
  obtain ⟨⟨h1, h2, h3, h4, h5, h6⟩, h7, h8, h9⟩ := h
  have hg := hK.toGrown
  exact ⟨⟨h1.trans (below_grown hg h8 h1.size), h2.grown hg (fun e => h9 (Option.some.inj e)), h3.rb (may_ents hr) h7 hz hg, h4.other h7 ⟨_, rfl⟩ hg, h5, h6⟩, hR, h8, h9⟩
theorem TkI.put (h : TkI w W gr r s b m n g0 G rb E U) (hq : LogAt W W.heap.size s' q.log) (hB : Blk W' gr 37 (rgv q s')) (hg : W.grownBy W' (some gr)) : TkI w W' gr q s' b m n g0 G rb E U :=
  ⟨h.1.put hq hB hg, Blk.grown h.2.1 hg (fun e => h.2.2.2 (Option.some.inj e).symm), h.2.2⟩
end
end Go.Proofs.Ytdphfhenjndkkaa
