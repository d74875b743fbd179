/-
  The walk over the document's 'lay', where entries are taken: in a new epoch.
  The walk over the document's 'lay', where entries are taken: nothing new.
-/
import Derived.Test.YtdphfhenjndkkaaReplicasTakeK1
import Derived.Test.YtdphfhenjndkkaaReplicasTakeK2
import Derived.Test.YtdphfhenjndkkaaReplicasTakeK3
import Derived.Test.YtdphfhenjndkkaaReplicasTakeK4
import Derived.Test.YtdphfhenjndkkaaReplicasTakeK5
import Derived.Test.YtdphfhenjndkkaaReplicasTakeK6
import Derived.Test.YtdphfhenjndkkaaReplicasTakeK7
set_option linter.unusedSimpArgs false
set_option linter.unusedVariables false
set_option maxRecDepth 100000
namespace Go.Proofs.Ytdphfhenjndkkaa
open Go Go.RowKit Go.Sq Go.Wd Go.Arch Go.Im

set_option maxHeartbeats 16000000 in
theorem rdlay_new (r : RegS) (sl : SlcE) (rb : Nat) (gr : Int) (E U : Nat → Int) (x : MailV) (now : Int) (w : World) (hB : RB w rb gr E U) (hbz : RBz E U) (h1s : x.m.stream = 1) (h0 : 0 ≤ now) (hl : LogAt w w.heap.size sl r.log) (hx : LogAt w w.heap.size x.es x.m.ents) (hx2 : x.m.ents.length ≤ 1000) (hok : mailOk r x.m) (hst : ¬ (x.m.epoch < r.prom ∨ (r.view < x.m.epoch ∧ 0 < x.m.base) ∨ (r.log.length : Int) < x.m.base)) (hN : r.view < x.m.epoch) :
    Calls Try.prog 45 #[.agg (rgv r sl).toArray, .pointer (some ⟨rb, 0, none⟩), .agg (mailv x).toArray, .int .i64 now] w (RTakeP (layS r x.m) rb gr E U x.m now w) := by
  obtain ⟨k1, k2, k3, k4, k5, k6⟩ := hok
  have m64 : r.log.length ≤ 64 := ((okLog_iff _ _).1 ((mayR_iff r).1 k1).2.1).1
  have hvp := ((mayR_iff r).1 k1).1.2.1
  obtain ⟨bn, hbn⟩ := Int.eq_ofNat_of_zero_le k4
  have hI0 : DgI w ((w.alloc (.cells (rgv r sl).toArray 37)).alloc (.cells (mailv x).toArray 43)) r sl x rb gr E U := ⟨RpI.new (x := x) hl, hx.keep (RpI.new (x := x) hl).1, Blk.keep hB (RpI.new (x := x) hl).1⟩
  have hsn : sl.2.1 = r.log.length := hl.1
  have FC : ∀ W, RpI w W r sl x → (W.cell? ⟨w.heap.size + 1, 3, none⟩ = some (.int .i64 x.m.stream) ∧ W.cell? ⟨w.heap.size + 1, 4, none⟩ = some (.int .i64 x.m.epoch) ∧ W.cell? ⟨w.heap.size + 1, 6, none⟩ = some (.int .i64 x.m.base) ∧ W.cell? ⟨w.heap.size + 1, 7, none⟩ = some (.int .i64 x.m.len) ∧ W.cell? ⟨w.heap.size + 1, 8, none⟩ = some (.int .i64 x.m.stamp)) ∧
      W.cell? ⟨w.heap.size, 0, none⟩ = some (.int .i64 r.prom) ∧ W.cell? ⟨w.heap.size, 1, none⟩ = some (.int .i64 r.view) ∧ W.cell? ⟨w.heap.size, 2, none⟩ = some (.slice sl.1 sl.2.1 sl.2.2) := fun W h => ⟨⟨h.2.2.1.cell 3, h.2.2.1.cell 4, h.2.2.1.cell 6, h.2.2.1.cell 7, h.2.2.1.cell 8⟩, h.2.1.cell 0, h.2.1.cell 1, h.2.1.cell 2⟩
  have FD : ∀ W, DgI w W r sl x rb gr E U → W.cell? ⟨w.heap.size + 1, 6, none⟩ = some (.int .i64 (bn : Int)) ∧ W.cell? ⟨w.heap.size + 1, 9, none⟩ = some (.slice x.es.1 x.m.ents.length x.es.2.2) ∧ W.cell? ⟨w.heap.size, 2, none⟩ = some (.slice sl.1 sl.2.1 sl.2.2) := fun W h =>
    ⟨by rw [← hbn]; exact h.1.2.2.1.cell 6, by have h9 := h.1.2.2.1.cell 9; rw [h9]; show some (Value.slice x.es.1 x.es.2.1 x.es.2.2) = _; rw [hx.1], h.1.2.1.cell 2⟩
  have HI := Lib.hid hI0
  have HB := Lib.hid (And.intro hB (And.intro hbz h1s))
  have HK := Lib.hid (And.intro k1 (And.intro h0 (And.intro hx2 (And.intro hl (And.intro hx (And.intro m64 (And.intro hsn hbn)))))))
  obtain ⟨⟨f3, f4, f6, f7, f8⟩, g0, g1, g2⟩ := FC _ HI.out.1
  have c1 : ¬ x.m.epoch < r.prom := fun h => hst (.inl h)
  have hng : ¬ ((r.view < x.m.epoch ∧ 0 < x.m.base) ∨ (r.log.length : Int) < x.m.base) := fun h => hst (.inr h)
  have HL1 : Hid (grownS r x.m = none → layS r x.m = nothing) := Lib.hid (fun h => lay_none c1 hng h)
  have HL2 : Hid (∀ l q, grownS r x.m = some (l, q) → layS r x.m = ⟨l ++ comS q x.m, [ackM q x.m], 1⟩) := Lib.hid (fun l q h => lay_some c1 hng h)
  have a2 : ¬ (sl.2.1 : Int) < x.m.base := fun h => hng (.inr (by rw [← hsn]; exact h))
  have b1 : bn ≤ r.log.length := by omega
  have b2 : (bn : Int) ≤ (sl.2.2 : Int) := by have := hl.2.1; omega
  have b3 : bn ≤ sl.2.1 := by omega
  have b4 : (bn : Int) ≤ (sl.2.1 : Int) := by omega
  have hcs : (r.view < x.m.epoch ∧ ¬ 0 < x.m.base ∧ (x.m.epoch != r.view) = true ∧ (x.m.epoch == r.view) = false ∧ Hid (x.m.epoch ≠ r.view ∧ bn = 0)) ∨ (¬ r.view < x.m.epoch ∧ (x.m.epoch != r.view) = false ∧ (x.m.epoch == r.view) = true ∧ Hid (x.m.epoch = r.view)) := by
    by_cases h : r.view < x.m.epoch
    · exact .inl ⟨h, fun h2 => hng (.inl ⟨h, h2⟩), bne_iff_ne.2 (by omega), beq_eq_false_iff_ne.2 (by omega), Lib.hid ⟨by omega, by have : ¬ 0 < x.m.base := fun h2 => hng (.inl ⟨h, h2⟩); omega⟩⟩
    · have he : x.m.epoch = r.view := by omega
      exact .inr ⟨h, by rw [he]; simp, beq_iff_eq.2 he, Lib.hid he⟩
  clear hI0 hl hB k1 k2 k3 k4 k5 k6 hx hx2 m64 hbn hst hng hvp hbz h1s
  obtain ⟨a1, a3, e1, e2, HV⟩ := hcs.resolve_right (fun h => h.1 hN)
  clear hN
  clear hsn
  go_enter Try.func45, Try.ntmps45
  go_wp2_with fail
  refine abs_code (fun W => DgI w W r sl x rb gr E U) HI.out ?_
  clear HI c1 a1 a2 f3 f4 f6 f7 f8 g0 g1 g2
  try clear a3
  intro w1 h1
  obtain ⟨wd, hwd⟩ : ∃ wd, w1.drew = wd := ⟨_, rfl⟩
  have h1d : DgI w wd r sl x rb gr E U := by rw [← hwd]; exact h1.keep (Below.refl _ _).drew
  clear h1
  refine wp_region_p ([(0, true), (1, true), (2, true), (3, true), (4, true), (6, true), (7, true), (5, false), (8, false), (9, true)]) (fun w' => DgI w w' r sl x rb gr E U) (by kernel_rfl) rfl (by kernel_rfl) (by kernel_rfl) (by rw [hwd]; exact h1d) rfl ?_
  intro KP RP TP hKP hTP hTP'
  simp only [List.append_eq, List.cons_append, List.nil_append, pick, nth]
  rw [hwd]
  clear hwd
  have H1 := Lib.hid h1d
  clear h1d
  go_wp2_with (first
    | (apply SeqP.skip; rfl; simp only [Act.put, List.setIfInBounds_toArray, List.set_cons_zero, List.set_cons_succ])
    | (apply SeqP.call; rfl; rfl; (intro w2 hw; have hw := hTP _ hw; ((obtain ⟨q6, q9, q2⟩ := FD _ hw)); go_simp; exact ⟨rfl, rfl⟩); (intro w2 hw; have hw := hTP _ hw; ((obtain ⟨q6, q9, q2⟩ := FD _ hw)); (first | fail)); simp only [Act.put, List.setIfInBounds_toArray, List.set_cons_zero, List.set_cons_succ])
    | (apply SeqP.pure; rfl; (intro w2 hw; have hw := hTP _ hw; ((obtain ⟨q6, q9, q2⟩ := FD _ hw)); go_simp; with_reducible rfl); simp only [Act.put, List.setIfInBounds_toArray, List.set_cons_zero, List.set_cons_succ])
    | (apply SeqP.split; rfl; rfl; all_goals (intro hc; simp only [hc]; try simp only [beq_iff_eq, decide_eq_true_eq, beq_eq_false_iff_ne, decide_eq_false_iff_not, bne_iff_ne, ne_eq, Bool.not_eq_true', Bool.not_eq_false', Int.not_le, Int.not_lt, bne_eq_false_iff_eq, Bool.or_eq_true, Bool.and_eq_true, Bool.or_eq_false_iff] at hc)))
  obtain ⟨v1, w2, hrun1, hR1, hg1, _⟩ := Row.app (Row.nil wd wd.heap.size) sl.1 sl.2.2 (LogAt.front (A := sl.1) (n := sl.2.1) (cap := sl.2.2) H1.out.1.2.2.2 b3).2.2.2 (by rw [List.length_take]; have := HK.out.2.2.2.2.2.1; simp; omega) (Nat.le_refl _)
  have htl : (r.log.take bn).length = bn := by rw [List.length_take]; omega
  rw [htl] at hrun1
  rw [List.nil_append] at hR1
  have hb1 : Below wd.heap.size wd w2 := ⟨hg1.os, hg1.tape, hg1.output, hg1.size, fun k hk => hg1.block k hk (by simp [Value.ownBlock])⟩
  have h2 := H1.out.keep hb1
  obtain ⟨v2, w3, hrun2, hR2, hg2, _⟩ := Row.app hR1 x.es.1 x.es.2.2 h2.2.1.2.2.2 (by rw [htl]; have := HK.out.2.2.1; have := HK.out.2.2.2.2.2.1; omega) hb1.size
  have hb2 : Below wd.heap.size wd w3 := below_own hb1 hg2 hR1 hb1.size
  have h3 := H1.out.keep hb2
  have hwz := H1.out.1.1.size
  have hwz2 : w.heap.size + 1 < wd.heap.size := H1.out.1.2.2.1.lt
  have HP := Lib.hid (And.intro h2 h3)
  apply SeqP.eff
  · rfl
  intro KE hKE
  refine oper_app (by rfl) (by rfl) (by rfl) hrun1 ?_
  refine hKE _ _ (hTP' _ HP.out.1) ?_
  clear hKE KE hrun1 hR1 hg1 hb1 h2
  go_wp2_with (first
    | (apply SeqP.skip; rfl; simp only [Act.put, List.setIfInBounds_toArray, List.set_cons_zero, List.set_cons_succ])
    | (apply SeqP.call; rfl; rfl; (intro w2 hw; have hw := hTP _ hw; ((obtain ⟨q6, q9, q2⟩ := FD _ hw)); go_simp; exact ⟨rfl, rfl⟩); (intro w2 hw; have hw := hTP _ hw; ((obtain ⟨q6, q9, q2⟩ := FD _ hw)); (first | fail)); simp only [Act.put, List.setIfInBounds_toArray, List.set_cons_zero, List.set_cons_succ])
    | (apply SeqP.pure; rfl; (intro w2 hw; have hw := hTP _ hw; ((obtain ⟨q6, q9, q2⟩ := FD _ hw)); go_simp; with_reducible rfl); simp only [Act.put, List.setIfInBounds_toArray, List.set_cons_zero, List.set_cons_succ])
    | (apply SeqP.split; rfl; rfl; all_goals (intro hc; simp only [hc]; try simp only [beq_iff_eq, decide_eq_true_eq, beq_eq_false_iff_ne, decide_eq_false_iff_not, bne_iff_ne, ne_eq, Bool.not_eq_true', Bool.not_eq_false', Int.not_le, Int.not_lt, bne_eq_false_iff_eq, Bool.or_eq_true, Bool.and_eq_true, Bool.or_eq_false_iff] at hc)))
  apply SeqP.eff
  · rfl
  intro KE hKE
  refine oper_app (by rfl) (by rfl) (by rfl) hrun2 ?_
  refine hKE _ _ (hTP' _ HP.out.2) ?_
  clear hKE KE hrun2 hg2 hb2 h3
  go_wp2_with (first
    | (apply SeqP.skip; rfl; simp only [Act.put, List.setIfInBounds_toArray, List.set_cons_zero, List.set_cons_succ])
    | (apply SeqP.call; rfl; rfl; (intro w2 hw; have hw := hTP _ hw; ((obtain ⟨q6, q9, q2⟩ := FD _ hw)); go_simp; exact ⟨rfl, rfl⟩); (intro w2 hw; have hw := hTP _ hw; ((obtain ⟨q6, q9, q2⟩ := FD _ hw)); (first | fail)); simp only [Act.put, List.setIfInBounds_toArray, List.set_cons_zero, List.set_cons_succ])
    | (apply SeqP.pure; rfl; (intro w2 hw; have hw := hTP _ hw; ((obtain ⟨q6, q9, q2⟩ := FD _ hw)); go_simp; with_reducible rfl); simp only [Act.put, List.setIfInBounds_toArray, List.set_cons_zero, List.set_cons_succ])
    | (apply SeqP.split; rfl; rfl; all_goals (intro hc; simp only [hc]; try simp only [beq_iff_eq, decide_eq_true_eq, beq_eq_false_iff_ne, decide_eq_false_iff_not, bne_iff_ne, ne_eq, Bool.not_eq_true', Bool.not_eq_false', Int.not_le, Int.not_lt, bne_eq_false_iff_eq, Bool.or_eq_true, Bool.and_eq_true, Bool.or_eq_false_iff] at hc)))
  apply SeqP.nil
  refine hKP _ _ (hTP' _ (HP.out.2)) ?_
  clear hKP hTP hTP'
  have hJe : joinM r x.m = r.log.take bn ++ x.m.ents := by unfold joinM; rw [HK.out.2.2.2.2.2.2.2, Int.toNat_natCast]
  rw [← hJe] at hR2
  have hJl : (joinM r x.m).length ≤ bn + x.m.ents.length := by rw [hJe, List.length_append, htl]; omega
  obtain ⟨J, hJ⟩ : ∃ J, joinM r x.m = J := ⟨_, rfl⟩
  rw [hJ] at hJl hR2
  have HJ := Lib.hid (And.intro hJ (And.intro hJl (show bn ≤ 64 from by have := HK.out.2.2.2.2.2.1; omega)))
  have HJ0 := Lib.hid b3
  clear hJe hJ hJl htl
  obtain ⟨AJ, cJ, rfl, hLJ, hwJ⟩ := hR2.form2
  have hwJ2 : (0 < J.length → ∃ q, AJ = some ⟨q, 0, none⟩) ∧ ∀ b o, AJ = some ⟨b, o, none⟩ → b < w3.heap.size := ⟨fun h => by
    obtain ⟨q, e, _, h2⟩ := hwJ h
    exact ⟨q, e⟩, fun b o e => by
    subst e
    rcases id hR2.2 with ⟨h', _⟩ | ⟨g, cap, cur, h', hg, _⟩
    · injection h' with e1
      cases e1
    · injection h' with e1
      cases e1
      exact (hR2.lt _ rfl).2⟩
  have H3 := Lib.hid (And.intro HP.out.2 (And.intro hLJ hwJ2))
  clear hLJ hwJ hwJ2 hR2 HP H1 hwz hwz2
  obtain ⟨⟨f3, f4, f6, f7, f8⟩, g0, g1, g2⟩ := FC _ H3.out.1.1
  go_wp2_with ((with_reducible refine at_list ?_); first | (with_reducible refine cut_at 72 rfl ?_) | refine wpList_load_blk rfl 37 _ rfl _ rfl _ _ _ (H3.out.1.1.2.1) Try.underlying37 rfl rg_info ?_ | (refine wpList_store_own rfl 37 _ _ rfl _ (rgv r sl) rfl rfl _ _ (Blk.new w3 37 (rgv reg0 (none, 0, 0))) rg_info rfl (rgv_one _ _) ?_; intro w4 B4 g4))
  refine Cut.go ?_
  have hb4 := below_new g4
  have H4 := Lib.hid (show DgJ w w4 r sl x rb gr E U J (AJ, J.length, cJ) w3.heap.size from ⟨H3.out.1.keep hb4, ⟨H3.out.2.1.keep hb4, H3.out.2.2⟩, B4, H3.out.1.1.2.2.1.lt⟩)
  clear hb4 B4 g4 H3 f3 f4 f6 f7 f8 g0 g1 g2 b1 b2 b3 b4
  generalize w3.heap.size = g13 at H4 ⊢
  obtain ⟨⟨f3, f4, f6, f7, f8⟩, g0, g1, g2⟩ := FC _ H4.out.1.1
  have hS : grownS r x.m = (applyR r (XV x.m 0 J (AJ, J.length, cJ)).s).map fun q => ([(XV x.m 0 J (AJ, J.length, cJ)).s], q) := by
    have hJ0 : J = x.m.ents := by rw [← HJ.out.1]; unfold joinM; rw [HK.out.2.2.2.2.2.2.2, Int.toNat_natCast, HV.out.2, List.take_zero, List.nil_append]
    have hb0 : x.m.base = 0 := by rw [HK.out.2.2.2.2.2.2.2, HV.out.2]; rfl
    unfold grownS
    rw [if_neg HV.out.1, hb0, ← hJ0]
    rfl
  have HS := Lib.hid hS
  clear hS
  go_wp2_with ((with_reducible refine at_list ?_); first | (with_reducible refine cut_at 102 rfl ?_) | (refine wpList_store_own rfl 53 _ _ rfl _ (rcv (XV x.m 0 J (AJ, J.length, cJ))) rfl rfl _ _ (Blk.new w4 53 (rcv recZ)) rc_info rfl (rcv_one' _) ?_; intro w5 B5 g5))
  refine Cut.go ?_
  have hb5 := below_new g5
  have H5 := Lib.hid (And.intro (H4.out.keep hb5) B5)
  clear hb5 B5 g5 H4 f3 f4 f6 f7 f8 g0 g1 g2
  obtain ⟨⟨f3, f4, f6, f7, f8⟩, g0, g1, g2⟩ := FC _ H5.out.1.1.1
  generalize w4.heap.size = gx at H5 ⊢
  go_wp2_with ((with_reducible refine at_list ?_); (with_reducible refine cut_at 118 rfl ?_))
  refine Cut.go ?_
  have HT := Lib.hid (show ∃ xv, DgJ w w5 r sl x rb gr E U J (AJ, J.length, cJ) g13 ∧ Blk w5 gx 53 (rcv xv) ∧ LogAt w5 w5.heap.size xv.es xv.ents ∧ xv.ents.length ≤ 1000 ∧ (∀ b o, xv.es.1 = some ⟨b, o, none⟩ → b < g13) ∧ xv.fs = (none, 0, 0) ∧ grownS r x.m = (applyR r xv.s).map fun q => ([xv.s], q) from
    ⟨_, H5.out.1, H5.out.2, H5.out.1.2.1.1, by have h1 := HJ.out.2.1; have h2 := HK.out.2.2.1; have h3 := HV.out.2; show J.length ≤ 1000; omega, H5.out.1.2.1.2.2, rfl, HS.out⟩)
  clear H5 HS
  obtain ⟨wt, rfl⟩ : ∃ wt, wt = w5 := ⟨_, rfl⟩
  clear f3 f4 f6 f7 f8 g0 g1 g2
  obtain ⟨xv, hT1, hT2, hT3, hT4, hT5, hT6, hT7⟩ := HT.out
  have HXV := Lib.hid (And.intro hT6 hT7)
  have HW := Lib.hid (And.intro hT1 (And.intro hT2 (And.intro hT3 (And.intro hT4 hT5))))
  clear hT1 hT2 hT3 hT4 hT5 hT6 hT7 HT
  obtain ⟨qa, ok, hqa⟩ : ∃ qa ok, regR (applyR r xv.s) = (qa, ok) := ⟨_, _, rfl⟩
  have hdoc := doc_any r sl xv wt HW.out.1.1.1.2.2.2 HW.out.2.2.1 HW.out.2.2.2.1
  unfold DocP at hdoc
  rw [hqa] at hdoc
  dsimp only at hdoc
  have HDC := Lib.hid (And.intro hdoc hqa)
  clear hdoc hqa
  cases ok with
  | false =>
    have hN : grownS r x.m = none := by
      have h := HDC.out.2
      rw [HXV.out.2]
      cases hA : applyR r xv.s with
      | none => rfl
      | some a => rw [hA] at h; cases h
    have HS := Lib.hid (HL1.out hN)
    clear hN
    go_wp2_with ((with_reducible refine at_list ?_); first | refine wpList_load_blk rfl 37 _ rfl _ rfl _ _ _ (HW.out.1.1.1.2.1) Try.underlying37 rfl rg_info ?_ | refine wpList_load_blk rfl 53 _ rfl _ rfl _ _ _ (HW.out.2.1) Try.underlying53 rfl rc_info ?_)
    refine HDC.out.1.mono ?_
    rintro e wa ⟨sa, rfl, hLa, hba⟩
    have HA := Lib.hid (below_trans HW.out.1.1.1.1 hba HW.out.1.1.1.1.size)
    clear hLa hba HW HDC
    go_wp2_with ((with_reducible refine at_list ?_); first | (refine wpList_store_own rfl 37 _ _ rfl _ (rgv qa sa) rfl rfl _ _ (Blk.new wa 37 (rgv reg0 (none, 0, 0))) rg_info rfl (rgv_one _ _) ?_; intro wb Bb gb))
    have hwb := below_trans HA.out (below_new gb) HA.out.size
    go_ret2
    rw [HS.out]
    exact RTakeP.pure rfl Answer.nothing HB.out.1 hwb
  | true =>
    have hN : grownS r x.m = some ([xv.s], qa) := by
      have h := HDC.out.2
      rw [HXV.out.2]
      cases hA : applyR r xv.s with
      | none => rw [hA] at h; cases h
      | some a => rw [hA] at h; cases h; rfl
    have HN2 := Lib.hid hN
    clear hN
    go_wp2_with ((with_reducible refine at_list ?_); first | refine wpList_load_blk rfl 37 _ rfl _ rfl _ _ _ (HW.out.1.1.1.2.1) Try.underlying37 rfl rg_info ?_ | refine wpList_load_blk rfl 53 _ rfl _ rfl _ _ _ (HW.out.2.1) Try.underlying53 rfl rc_info ?_)
    refine HDC.out.1.mono ?_
    rintro e wa ⟨sa, rfl, hLa, hba⟩
    have hgxl := HW.out.1.2.2.1.lt
    have HA := Lib.hid (And.intro (HW.out.1.keep hba) (And.intro (HW.out.2.1.keep hba) (And.intro (HW.out.2.2.1.keep hba) (And.intro HW.out.2.2.2.2 (And.intro hLa (Nat.lt_of_lt_of_le hgxl hba.size))))))
    clear hLa hba HW HDC hgxl
    go_wp2_with ((with_reducible refine at_list ?_); first | (with_reducible refine cut_at 126 rfl ?_) | (refine wpList_store_own rfl 37 _ _ rfl _ (rgv qa sa) rfl rfl _ _ (Blk.new wa 37 (rgv reg0 (none, 0, 0))) rg_info rfl (rgv_one _ _) ?_; intro wb Bb gb))
    refine Cut.go ?_
    have hwb := below_new gb
    have hrow := RRow.snoc (RRow.nil wb w.heap.size) xv ⟨HA.out.2.2.1.keep hwb, fun b o e => ⟨by simp [Value.ownBlock], by have h1 := HA.out.2.2.2.1 b o e; have h2 := HA.out.2.2.2.2.2; have h3 := hwb.size; omega⟩⟩ (by simp) (Nat.le_trans HA.out.1.1.1.1.size hwb.size)
    obtain ⟨v2, w2, hrun, hR2, hg2⟩ := hrow
    obtain ⟨Ax, cx, hvx, -, -, -⟩ := hR2.recs
    have hv2 : v2 = .slice Ax 1 cx := hvx
    clear hvx
    subst hv2
    have hb2 : Below wb.heap.size wb w2 := ⟨hg2.os, hg2.tape, hg2.output, hg2.size, fun k hk => hg2.block k hk (by simp [Value.ownBlock])⟩
    have HX := Lib.hid (HA.out.2.1.keep hwb)
    have h2 := (HA.out.1.keep hwb).keep hb2
    have H2 := Lib.hid (And.intro h2 (And.intro (Bb.keep hb2) (And.intro ((HA.out.2.2.2.2.1.keep hwb).keep hb2) (And.intro hR2 HA.out.2.2.2.2.2))))
    clear hwb Bb gb hR2 hg2 hb2 h2 HA
    generalize wa.heap.size = ga at H2 ⊢
    go_wp2_with ((with_reducible refine at_list ?_); first | (with_reducible refine cut_at 127 rfl ?_) | refine wpList_load_blk rfl 53 _ rfl _ rfl _ _ _ (HX.out) Try.underlying53 rfl rc_info ?_)
    refine Cut.go ?_
    unfold rcv at hrun ⊢
    go_wp2_with (first | ((with_reducible refine at_list ?_); (with_reducible refine cut_at 129 rfl ?_)) | (at_builtin; refine wpList_app rfl (by rfl) (by rfl) (by rfl) hrun ?_))
    refine Cut.go ?_
    clear hrun HX
    go_wp2_with ((with_reducible refine at_list ?_); first | (with_reducible refine cut_at 130 rfl ?_) | refine wpList_load_blk rfl 37 _ rfl _ rfl _ _ _ (H2.out.2.1) Try.underlying37 rfl rg_info ?_ | (refine wpList_store_own rfl 37 _ _ rfl _ (rgv qa sa) rfl rfl _ _ (H2.out.1.2.2.1) rg_info rfl (rgv_one _ _) ?_; intro wz Bz gz))
    refine Cut.go ?_
    have hbz : Below w.heap.size w wz := H2.out.1.1.1.1.trans (below_grown gz (by have := H2.out.1.2.2.2; omega) H2.out.1.1.1.1.size)
    have HQ := Lib.hid (show grownS r x.m = some ([xv].map RecV.s, qa) ∧ (∀ y ∈ [xv], y.fs = (none, 0, 0)) ∧ sa.2.1 = qa.log.length from ⟨HN2.out, fun y hy => by rw [List.mem_singleton.1 hy]; exact HXV.out.1, H2.out.2.2.1.1⟩)
    have hne : ∀ m, m ≠ g13 → some m ≠ some g13 := fun m h e => h (Option.some.inj e)
    have HD := Lib.hid (show DyK w wz x g13 qa sa (.slice Ax 1 cx) [xv] rb gr E U from ⟨hbz, H2.out.1.1.1.2.2.1.grown gz (hne _ (by have := H2.out.1.2.2.2; omega)), H2.out.2.2.2.1.stored H2.out.1.2.2.1 (by simp [rgv]) (by decide) gz, Bz, Blk.grown H2.out.1.1.2.2 gz (hne _ (by have h1 := H2.out.1.2.2.2; have h2 : rb < w.heap.size := Blk.lt HB.out.1; omega)), H2.out.1.2.2.2⟩)
    clear H2 hbz Bz gz HN2 hne
    obtain ⟨mn, hmn⟩ : ∃ mn, min x.m.len (qa.log.length : Int) = mn := ⟨_, rfl⟩
    have HMN := Lib.hid hmn
    have f3 : wz.cell? ⟨w.heap.size + 1, 3, none⟩ = some (.int .i64 x.m.stream) := HD.out.2.1.cell 3
    have f7 : wz.cell? ⟨w.heap.size + 1, 7, none⟩ = some (.int .i64 x.m.len) := HD.out.2.1.cell 7
    have c2 : wz.cell? ⟨g13, 2, none⟩ = some (.slice sa.1 qa.log.length sa.2.2) := by rw [← HQ.out.2.2]; exact HD.out.2.2.2.1.cell 2
    have c3 : wz.cell? ⟨g13, 3, none⟩ = some (.int .i64 qa.com) := HD.out.2.2.2.1.cell 3
    clear hmn
    by_cases hml : (qa.log.length : Int) < x.m.len
    case' pos => have hmm : (qa.log.length : Int) = mn := by have := HMN.out; omega
    case' neg => have hmm : x.m.len = mn := by have := HMN.out; omega
    all_goals
      have HMM := Lib.hid hmm
      clear hmm
      go_wp2_with ((with_reducible refine at_list ?_); (with_reducible refine cut_at 137 rfl ?_))
      refine Cut.go ?_
      rw [HMM.out]
      clear HMM hml f7 c2
      by_cases hp : qa.com < mn
      case pos =>
        have hcc : comS qa x.m = [(recCn x.m mn).s] := by
          unfold comS
          rw [HMN.out, if_pos hp]
          unfold recC
          rw [HMN.out]
          rfl
        have HC := Lib.hid hcc
        obtain ⟨v2, w6, hrun, hR6, hg6⟩ := RRow.snoc HD.out.2.2.1 (recCn x.m mn) ⟨LogAt.nil, fun b o e => by cases e⟩ (by simp) HD.out.1.size
        obtain ⟨A2, c22, rfl, -, -, -⟩ := hR6.recs
        have h6 : DyK w w6 x g13 qa sa (.slice A2 ([xv] ++ [recCn x.m mn]).length c22) ([xv] ++ [recCn x.m mn]) rb gr E U :=
          ⟨Gr.below_row HD.out.1 hg6 HD.out.2.2.1.1 HD.out.1.size, blk_beside HD.out.2.1 (by decide) HD.out.2.2.1 hg6, hR6, blk_beside HD.out.2.2.2.1 (by decide) HD.out.2.2.1 hg6, blk_beside HD.out.2.2.2.2.1 (by decide) HD.out.2.2.1 hg6, HD.out.2.2.2.2.2⟩
        have HY := Lib.hid (show DyK w w6 x g13 qa sa (.slice A2 ([xv] ++ [recCn x.m mn]).length c22) ([xv] ++ [recCn x.m mn]) rb gr E U ∧ ([xv] ++ [recCn x.m mn]).map RecV.s = ([xv]).map RecV.s ++ comS qa x.m ∧ (∀ y ∈ [xv] ++ [recCn x.m mn], y.fs = (none, 0, 0)) from
          ⟨h6, by rw [HC.out, List.map_append]; rfl, fun y hy => by
            rcases List.mem_append.1 hy with h | h
            · exact HQ.out.2.1 y h
            · rw [List.mem_singleton.1 h]; rfl⟩)
        clear h6 hR6 hg6 hcc HC HD
        unfold recCn rcv at hrun
        dsimp only at hrun
        go_wp2_with (first | ((with_reducible refine at_list ?_); (with_reducible refine cut_at 148 rfl ?_)) | (at_builtin; refine wpList_app rfl (by rfl) (by rfl) (by rfl) hrun ?_))
        refine Cut.go ?_
        clear hrun f3 c3 hp
        obtain ⟨wy, rfl⟩ : ∃ wy, wy = w6 := ⟨_, rfl⟩
        have f3 : wy.cell? ⟨w.heap.size + 1, 3, none⟩ = some (.int .i64 x.m.stream) := HY.out.1.2.1.cell 3
        have f4 : wy.cell? ⟨w.heap.size + 1, 4, none⟩ = some (.int .i64 x.m.epoch) := HY.out.1.2.1.cell 4
        have HS := Lib.hid (HL2.out _ _ HQ.out.1)
        have hokE : ∀ z ∈ (layS r x.m).recs, OkE z.ents := by
          rw [HS.out]
          intro z hz
          rcases List.mem_append.1 hz with h | h
          · exact grown_ok HQ.out.1 z h
          · exact com_ok z h
        have HO := Lib.hid hokE
        clear hokE
        go_wp2_with fail
        refine (rgrant_any rb gr E U x.m.stream x.m.epoch now (by have := HK.out.2.1; omega) wy HY.out.1.2.2.2.2.1).mono ?_
        rintro e w9 ⟨rfl, hR9, hg9⟩
        have hne : ∀ m, m ≠ rb → some m ≠ some rb := fun m h e => h (Option.some.inj e)
        have hrb : rb < w.heap.size := Blk.lt HB.out.1
        have hM9 := HY.out.1.2.1.grown hg9 (hne _ (by omega))
        have hQ9 := HY.out.1.2.2.2.1.grown hg9 (hne _ (by have := HY.out.1.2.2.2.2.2; omega))
        have hX9 := (HY.out.1.2.2.1.rcs).rb HY.out.1.2.2.2.2.1 hg9 (fun y hy => by
          obtain ⟨v, hv⟩ := HO.out y.s (by rw [HS.out]; show y.s ∈ _; rw [← HY.out.2.1]; exact List.mem_map_of_mem hy)
          exact (HY.out.1.2.2.1.rcs.2 y hy).rb hv HY.out.1.2.2.2.2.1 HB.out.2.1 hg9)
        have hK9 : Kept w w9 (some rb) none := (Kept.ofBelow HY.out.1.1 _ _).trans (Kept.ofGrown hg9)
        have HXS := Lib.hid HY.out.2
        have H9 := Lib.hid (And.intro hM9 (And.intro hQ9 (And.intro hX9 (And.intro hR9 hK9))))
        clear hM9 hQ9 hX9 hR9 hg9 hK9 HY f3 f4 hne hrb HO
        have f4 : w9.cell? ⟨w.heap.size + 1, 4, none⟩ = some (.int .i64 x.m.epoch) := H9.out.1.cell 4
        go_wp2_with ((with_reducible refine at_list ?_); first | refine wpList_load_blk rfl 43 _ rfl _ rfl _ _ _ (H9.out.1) Try.underlying43 rfl mail_info ?_)
        refine (rback_any x 5 x.m.epoch w9).mono ?_
        rintro e w10 ⟨rfl, hb10⟩
        have H10 := Lib.hid hb10
        clear hb10 f4
        go_wp2_with ((with_reducible refine at_list ?_); first | (refine wpList_store_own rfl 43 _ _ rfl _ (mailv (backV x.m 5 x.m.epoch)) rfl rfl _ _ (Blk.new w10 43 (mailv backV0)) mail_info rfl (mail_one _) ?_; intro w11 B11 g11))
        have hb11 := below_new g11
        have h11 : PrS w9 w10.heap.size 43 (mailv (backV x.m 5 x.m.epoch)) (none, 0, 0) [] w11.drew := PrS.keep ⟨below_trans H10.out hb11 H10.out.size, B11, LogAt.nil, H10.out.size, by simp⟩ (Below.refl _ _).drew
        have H11 := Lib.hid h11
        clear hb11 B11 g11 h11 H10
        have FB2 : ∀ W, Below w9.heap.size w9 W → W.cell? ⟨g13, 2, none⟩ = some (.slice sa.1 qa.log.length sa.2.2) ∧ W.cell? ⟨w.heap.size + 1, 8, none⟩ = some (.int .i64 x.m.stamp) := fun W h => ⟨by rw [← HQ.out.2.2]; exact (H9.out.2.1.keep h).cell 2, (H9.out.1.keep h).cell 8⟩
        refine wp_region_p ([(0, true), (1, true), (2, true), (3, true), (4, true), (5, true), (6, false), (7, true), (8, false)]) (fun w' => Below w9.heap.size w9 w') (by kernel_rfl) rfl (by kernel_rfl) (by kernel_rfl) (H11.out.1) rfl ?_
        intro KP RP TP hKP hTP hTP'
        simp only [List.append_eq, List.cons_append, List.nil_append, pick, nth]
        generalize w11.drew = we at *
        generalize w10.heap.size = g at *
        go_wp2_with (first
          | (apply SeqP.skip; rfl; simp only [Act.put, List.setIfInBounds_toArray, List.set_cons_zero, List.set_cons_succ])
          | (apply SeqP.call; rfl; rfl; (intro w2 hw; have hw := hTP _ hw; ((obtain ⟨q2, q8⟩ := FB2 _ hw)); go_simp; exact ⟨rfl, rfl⟩); (intro w2 hw; have hw := hTP _ hw; ((obtain ⟨q2, q8⟩ := FB2 _ hw)); (first | fail)); simp only [Act.put, List.setIfInBounds_toArray, List.set_cons_zero, List.set_cons_succ])
          | (apply SeqP.pure; rfl; (intro w2 hw; have hw := hTP _ hw; ((obtain ⟨q2, q8⟩ := FB2 _ hw)); go_simp; with_reducible rfl); simp only [Act.put, List.setIfInBounds_toArray, List.set_cons_zero, List.set_cons_succ])
          | (apply SeqP.split; rfl; rfl; all_goals (intro hc; simp only [hc]; try simp only [beq_iff_eq, decide_eq_true_eq, beq_eq_false_iff_ne, decide_eq_false_iff_not, bne_iff_ne, ne_eq, Bool.not_eq_true', Bool.not_eq_false', Int.not_le, Int.not_lt, bne_eq_false_iff_eq, Bool.or_eq_true, Bool.and_eq_true, Bool.or_eq_false_iff] at hc)))
        have h12 := H11.out.set 7 (.int .i64 (qa.log.length : Int))
        have h13 := h12.set 8 (.int .i64 x.m.stamp)
        have HP2 := Lib.hid (And.intro h12 h13)
        have c7 : we.cell? ⟨g, 7, none⟩ = some (.int .i64 0) := H11.out.2.1.cell 7
        have z7 : we.frozen? ⟨g, 7, none⟩ = false := H11.out.2.1.frozen 7
        have c8 : we.cell? ⟨g, 8, none⟩ = some (.int .i64 0) := H11.out.2.1.cell 8
        have z8 : we.frozen? ⟨g, 8, none⟩ = false := H11.out.2.1.frozen 8
        clear h12 h13 H11
        apply SeqP.eff
        · rfl
        intro KE hKE
        go_wp2_with fail
        refine hKE _ _ (hTP' _ HP2.out.1.1) ?_
        clear hKE KE
        go_wp2_with (first
          | (apply SeqP.skip; rfl; simp only [Act.put, List.setIfInBounds_toArray, List.set_cons_zero, List.set_cons_succ])
          | (apply SeqP.call; rfl; rfl; (intro w2 hw; have hw := hTP _ hw; (skip); go_simp; exact ⟨rfl, rfl⟩); (intro w2 hw; have hw := hTP _ hw; (skip); (first | fail)); simp only [Act.put, List.setIfInBounds_toArray, List.set_cons_zero, List.set_cons_succ])
          | (apply SeqP.pure; rfl; (intro w2 hw; have hw := hTP _ hw; (skip); go_simp; with_reducible rfl); simp only [Act.put, List.setIfInBounds_toArray, List.set_cons_zero, List.set_cons_succ])
          | (apply SeqP.split; rfl; rfl; all_goals (intro hc; simp only [hc]; try simp only [beq_iff_eq, decide_eq_true_eq, beq_eq_false_iff_ne, decide_eq_false_iff_not, bne_iff_ne, ne_eq, Bool.not_eq_true', Bool.not_eq_false', Int.not_le, Int.not_lt, bne_eq_false_iff_eq, Bool.or_eq_true, Bool.and_eq_true, Bool.or_eq_false_iff] at hc)))
        apply SeqP.eff
        · rfl
        intro KE hKE
        go_wp2_with fail
        refine hKE _ _ (hTP' _ HP2.out.2.1) ?_
        clear hKE KE
        go_wp2_with (first
          | (apply SeqP.skip; rfl; simp only [Act.put, List.setIfInBounds_toArray, List.set_cons_zero, List.set_cons_succ])
          | (apply SeqP.call; rfl; rfl; (intro w2 hw; have hw := hTP _ hw; (skip); go_simp; exact ⟨rfl, rfl⟩); (intro w2 hw; have hw := hTP _ hw; (skip); (first | fail)); simp only [Act.put, List.setIfInBounds_toArray, List.set_cons_zero, List.set_cons_succ])
          | (apply SeqP.pure; rfl; (intro w2 hw; have hw := hTP _ hw; (skip); go_simp; with_reducible rfl); simp only [Act.put, List.setIfInBounds_toArray, List.set_cons_zero, List.set_cons_succ])
          | (apply SeqP.split; rfl; rfl; all_goals (intro hc; simp only [hc]; try simp only [beq_iff_eq, decide_eq_true_eq, beq_eq_false_iff_ne, decide_eq_false_iff_not, bne_iff_ne, ne_eq, Bool.not_eq_true', Bool.not_eq_false', Int.not_le, Int.not_lt, bne_eq_false_iff_eq, Bool.or_eq_true, Bool.and_eq_true, Bool.or_eq_false_iff] at hc)))
        apply SeqP.nil
        refine hKP _ _ (hTP' _ (HP2.out.2.1)) ?_
        clear hKP hTP hTP'
        have hcs : ((mailv (backV x.m 5 x.m.epoch)).set 7 (.int .i64 (qa.log.length : Int))).set 8 (.int .i64 x.m.stamp) = mailv (ackV qa x.m) := rfl
        have h14 := HP2.out.2
        rw [hcs] at h14
        obtain ⟨av, hav⟩ : ∃ av, ackV qa x.m = av := ⟨_, rfl⟩
        have HAV := Lib.hid (show av.m = ackM qa x.m ∧ av.o = (0, 0, 0, 0, 0) ∧ av.an = (0, 0, 0) ∧ av.es = (none, 0, 0) ∧ av.m.ents = [] from by rw [← hav]; exact ⟨rfl, rfl, rfl, rfl, rfl⟩)
        rw [hav] at h14
        clear HP2 hcs c7 z7 c8 z8 hav
        generalize ((we.setCell ⟨g, 7, none⟩ (.int .i64 (qa.log.length : Int))).setCell ⟨g, 8, none⟩ (.int .i64 x.m.stamp)) = wf at h14 ⊢
        have H15 := Lib.hid (h14.keep (Below.refl _ _).drew)
        clear h14
        go_wp2_with fail
        refine wp_region_p ([(0, true), (1, true), (3, true), (2, false), (4, true)]) (fun w' => Below w9.heap.size w9 w' ∧ Blk w' g 43 (mailv av)) (by kernel_rfl) rfl (by kernel_rfl) (by kernel_rfl) (⟨H15.out.1, H15.out.2.1⟩) rfl ?_
        intro KP RP TP hKP hTP hTP'
        simp only [List.append_eq, List.cons_append, List.nil_append, pick, nth]
        generalize wf.drew = wh at *
        go_wp2_with (first
          | (apply SeqP.skip; rfl; simp only [Act.put, List.setIfInBounds_toArray, List.set_cons_zero, List.set_cons_succ])
          | (apply SeqP.pure; rfl; (intro w2 hw; have hw := hTP _ hw; exact exec_load_blk 43 _ rfl _ rfl _ _ (hw.2) _ Try.underlying43 rfl mail_info); simp only [Act.put, List.setIfInBounds_toArray, List.set_cons_zero, List.set_cons_succ])
          | (apply SeqP.call; rfl; rfl; (intro w2 hw; have hw := hTP _ hw; ((obtain ⟨q2, q8⟩ := FB2 _ hw.1)); go_simp; exact ⟨rfl, rfl⟩); (intro w2 hw; have hw := hTP _ hw; ((obtain ⟨q2, q8⟩ := FB2 _ hw.1)); (first | fail)); simp only [Act.put, List.setIfInBounds_toArray, List.set_cons_zero, List.set_cons_succ])
          | (apply SeqP.pure; rfl; (intro w2 hw; have hw := hTP _ hw; ((obtain ⟨q2, q8⟩ := FB2 _ hw.1)); go_simp; with_reducible rfl); simp only [Act.put, List.setIfInBounds_toArray, List.set_cons_zero, List.set_cons_succ])
          | (apply SeqP.split; rfl; rfl; all_goals (intro hc; simp only [hc]; try simp only [beq_iff_eq, decide_eq_true_eq, beq_eq_false_iff_ne, decide_eq_false_iff_not, bne_iff_ne, ne_eq, Bool.not_eq_true', Bool.not_eq_false', Int.not_le, Int.not_lt, bne_eq_false_iff_eq, Bool.or_eq_true, Bool.and_eq_true, Bool.or_eq_false_iff] at hc)))
        have hy0 : LogAt wh wh.heap.size av.es av.m.ents := by rw [HAV.out.2.2.2.1, HAV.out.2.2.2.2]; exact LogAt.nil
        have ha := H15.out.1.alloc H15.out.1.size (.cells (mailv av).toArray 43)
        have hml := mails_lit wh av hy0
        have hrr := H9.out.2.2.1.keep ha
        have HF := Lib.hid (And.intro ha (And.intro hml (And.intro hrr (H15.out.2.1.alloc (.cells (mailv av).toArray 43)))))
        clear hy0 ha hml hrr
        unfold mailv at HF
        apply SeqP.eff
        · rfl
        intro KE hKE
        simp only [mailv]
        go_wp2_with fail
        refine hKE _ _ (hTP' _ ⟨HF.out.1, HF.out.2.2.2⟩) ?_
        clear hKE KE
        go_wp2_with (first
          | (apply SeqP.skip; rfl; simp only [Act.put, List.setIfInBounds_toArray, List.set_cons_zero, List.set_cons_succ])
          | (apply SeqP.call; rfl; rfl; (intro w2 hw; have hw := hTP _ hw; ((obtain ⟨q2, q8⟩ := FB2 _ hw.1)); go_simp; exact ⟨rfl, rfl⟩); (intro w2 hw; have hw := hTP _ hw; ((obtain ⟨q2, q8⟩ := FB2 _ hw.1)); (first | fail)); simp only [Act.put, List.setIfInBounds_toArray, List.set_cons_zero, List.set_cons_succ])
          | (apply SeqP.pure; rfl; (intro w2 hw; have hw := hTP _ hw; ((obtain ⟨q2, q8⟩ := FB2 _ hw.1)); go_simp; with_reducible rfl); simp only [Act.put, List.setIfInBounds_toArray, List.set_cons_zero, List.set_cons_succ])
          | (apply SeqP.split; rfl; rfl; all_goals (intro hc; simp only [hc]; try simp only [beq_iff_eq, decide_eq_true_eq, beq_eq_false_iff_ne, decide_eq_false_iff_not, bne_iff_ne, ne_eq, Bool.not_eq_true', Bool.not_eq_false', Int.not_le, Int.not_lt, bne_eq_false_iff_eq, Bool.or_eq_true, Bool.and_eq_true, Bool.or_eq_false_iff] at hc)))
        apply SeqP.nil
        refine hKP _ _ (hTP' _ ⟨HF.out.1, HF.out.2.2.2⟩) ?_
        clear hKP hTP hTP'
        go_wp2_with fail
        go_ret2
        rw [HS.out]
        exact ⟨⟨_, _, _, 1, ([xv] ++ [recCn x.m mn]), [av], rfl, HF.out.2.2.1, HF.out.2.1, HXS.out.1, by rw [← HAV.out.1]; rfl, HXS.out.2, fun z hz => by rw [List.mem_singleton.1 hz]; exact ⟨HAV.out.2.1, HAV.out.2.2.1⟩⟩, by show RB _ rb gr (bookE 1 E U x.m.stream x.m.epoch) (bookU 1 E U x.m.stream x.m.epoch now); unfold bookE bookU; rw [if_pos rfl, if_pos rfl]; exact Blk.keep H9.out.2.2.2.1 HF.out.1, H9.out.2.2.2.2.trans (Kept.ofBelow HF.out.1 _ _)⟩
      case neg =>
        have hcc : comS qa x.m = [] := by
          unfold comS
          rw [HMN.out, if_neg hp]
        have HY := Lib.hid (And.intro HD.out (And.intro (show ([xv]).map RecV.s = ([xv]).map RecV.s ++ comS qa x.m from by rw [hcc, List.append_nil]) HQ.out.2.1))
        clear hcc HD
        go_wp2_with ((with_reducible refine at_list ?_); (with_reducible refine cut_at 148 rfl ?_))
        refine Cut.go ?_
        clear f3 c3 hp
        obtain ⟨wy, rfl⟩ : ∃ wy, wy = wz := ⟨_, rfl⟩
        have f3 : wy.cell? ⟨w.heap.size + 1, 3, none⟩ = some (.int .i64 x.m.stream) := HY.out.1.2.1.cell 3
        have f4 : wy.cell? ⟨w.heap.size + 1, 4, none⟩ = some (.int .i64 x.m.epoch) := HY.out.1.2.1.cell 4
        have HS := Lib.hid (HL2.out _ _ HQ.out.1)
        have hokE : ∀ z ∈ (layS r x.m).recs, OkE z.ents := by
          rw [HS.out]
          intro z hz
          rcases List.mem_append.1 hz with h | h
          · exact grown_ok HQ.out.1 z h
          · exact com_ok z h
        have HO := Lib.hid hokE
        clear hokE
        go_wp2_with fail
        refine (rgrant_any rb gr E U x.m.stream x.m.epoch now (by have := HK.out.2.1; omega) wy HY.out.1.2.2.2.2.1).mono ?_
        rintro e w9 ⟨rfl, hR9, hg9⟩
        have hne : ∀ m, m ≠ rb → some m ≠ some rb := fun m h e => h (Option.some.inj e)
        have hrb : rb < w.heap.size := Blk.lt HB.out.1
        have hM9 := HY.out.1.2.1.grown hg9 (hne _ (by omega))
        have hQ9 := HY.out.1.2.2.2.1.grown hg9 (hne _ (by have := HY.out.1.2.2.2.2.2; omega))
        have hX9 := (HY.out.1.2.2.1.rcs).rb HY.out.1.2.2.2.2.1 hg9 (fun y hy => by
          obtain ⟨v, hv⟩ := HO.out y.s (by rw [HS.out]; show y.s ∈ _; rw [← HY.out.2.1]; exact List.mem_map_of_mem hy)
          exact (HY.out.1.2.2.1.rcs.2 y hy).rb hv HY.out.1.2.2.2.2.1 HB.out.2.1 hg9)
        have hK9 : Kept w w9 (some rb) none := (Kept.ofBelow HY.out.1.1 _ _).trans (Kept.ofGrown hg9)
        have HXS := Lib.hid HY.out.2
        have H9 := Lib.hid (And.intro hM9 (And.intro hQ9 (And.intro hX9 (And.intro hR9 hK9))))
        clear hM9 hQ9 hX9 hR9 hg9 hK9 HY f3 f4 hne hrb HO
        have f4 : w9.cell? ⟨w.heap.size + 1, 4, none⟩ = some (.int .i64 x.m.epoch) := H9.out.1.cell 4
        go_wp2_with ((with_reducible refine at_list ?_); first | refine wpList_load_blk rfl 43 _ rfl _ rfl _ _ _ (H9.out.1) Try.underlying43 rfl mail_info ?_)
        refine (rback_any x 5 x.m.epoch w9).mono ?_
        rintro e w10 ⟨rfl, hb10⟩
        have H10 := Lib.hid hb10
        clear hb10 f4
        go_wp2_with ((with_reducible refine at_list ?_); first | (refine wpList_store_own rfl 43 _ _ rfl _ (mailv (backV x.m 5 x.m.epoch)) rfl rfl _ _ (Blk.new w10 43 (mailv backV0)) mail_info rfl (mail_one _) ?_; intro w11 B11 g11))
        have hb11 := below_new g11
        have h11 : PrS w9 w10.heap.size 43 (mailv (backV x.m 5 x.m.epoch)) (none, 0, 0) [] w11.drew := PrS.keep ⟨below_trans H10.out hb11 H10.out.size, B11, LogAt.nil, H10.out.size, by simp⟩ (Below.refl _ _).drew
        have H11 := Lib.hid h11
        clear hb11 B11 g11 h11 H10
        have FB2 : ∀ W, Below w9.heap.size w9 W → W.cell? ⟨g13, 2, none⟩ = some (.slice sa.1 qa.log.length sa.2.2) ∧ W.cell? ⟨w.heap.size + 1, 8, none⟩ = some (.int .i64 x.m.stamp) := fun W h => ⟨by rw [← HQ.out.2.2]; exact (H9.out.2.1.keep h).cell 2, (H9.out.1.keep h).cell 8⟩
        refine wp_region_p ([(0, true), (1, true), (2, true), (3, true), (4, true), (5, true), (6, false), (7, true), (8, false)]) (fun w' => Below w9.heap.size w9 w') (by kernel_rfl) rfl (by kernel_rfl) (by kernel_rfl) (H11.out.1) rfl ?_
        intro KP RP TP hKP hTP hTP'
        simp only [List.append_eq, List.cons_append, List.nil_append, pick, nth]
        generalize w11.drew = we at *
        generalize w10.heap.size = g at *
        go_wp2_with (first
          | (apply SeqP.skip; rfl; simp only [Act.put, List.setIfInBounds_toArray, List.set_cons_zero, List.set_cons_succ])
          | (apply SeqP.call; rfl; rfl; (intro w2 hw; have hw := hTP _ hw; ((obtain ⟨q2, q8⟩ := FB2 _ hw)); go_simp; exact ⟨rfl, rfl⟩); (intro w2 hw; have hw := hTP _ hw; ((obtain ⟨q2, q8⟩ := FB2 _ hw)); (first | fail)); simp only [Act.put, List.setIfInBounds_toArray, List.set_cons_zero, List.set_cons_succ])
          | (apply SeqP.pure; rfl; (intro w2 hw; have hw := hTP _ hw; ((obtain ⟨q2, q8⟩ := FB2 _ hw)); go_simp; with_reducible rfl); simp only [Act.put, List.setIfInBounds_toArray, List.set_cons_zero, List.set_cons_succ])
          | (apply SeqP.split; rfl; rfl; all_goals (intro hc; simp only [hc]; try simp only [beq_iff_eq, decide_eq_true_eq, beq_eq_false_iff_ne, decide_eq_false_iff_not, bne_iff_ne, ne_eq, Bool.not_eq_true', Bool.not_eq_false', Int.not_le, Int.not_lt, bne_eq_false_iff_eq, Bool.or_eq_true, Bool.and_eq_true, Bool.or_eq_false_iff] at hc)))
        have h12 := H11.out.set 7 (.int .i64 (qa.log.length : Int))
        have h13 := h12.set 8 (.int .i64 x.m.stamp)
        have HP2 := Lib.hid (And.intro h12 h13)
        have c7 : we.cell? ⟨g, 7, none⟩ = some (.int .i64 0) := H11.out.2.1.cell 7
        have z7 : we.frozen? ⟨g, 7, none⟩ = false := H11.out.2.1.frozen 7
        have c8 : we.cell? ⟨g, 8, none⟩ = some (.int .i64 0) := H11.out.2.1.cell 8
        have z8 : we.frozen? ⟨g, 8, none⟩ = false := H11.out.2.1.frozen 8
        clear h12 h13 H11
        apply SeqP.eff
        · rfl
        intro KE hKE
        go_wp2_with fail
        refine hKE _ _ (hTP' _ HP2.out.1.1) ?_
        clear hKE KE
        go_wp2_with (first
          | (apply SeqP.skip; rfl; simp only [Act.put, List.setIfInBounds_toArray, List.set_cons_zero, List.set_cons_succ])
          | (apply SeqP.call; rfl; rfl; (intro w2 hw; have hw := hTP _ hw; (skip); go_simp; exact ⟨rfl, rfl⟩); (intro w2 hw; have hw := hTP _ hw; (skip); (first | fail)); simp only [Act.put, List.setIfInBounds_toArray, List.set_cons_zero, List.set_cons_succ])
          | (apply SeqP.pure; rfl; (intro w2 hw; have hw := hTP _ hw; (skip); go_simp; with_reducible rfl); simp only [Act.put, List.setIfInBounds_toArray, List.set_cons_zero, List.set_cons_succ])
          | (apply SeqP.split; rfl; rfl; all_goals (intro hc; simp only [hc]; try simp only [beq_iff_eq, decide_eq_true_eq, beq_eq_false_iff_ne, decide_eq_false_iff_not, bne_iff_ne, ne_eq, Bool.not_eq_true', Bool.not_eq_false', Int.not_le, Int.not_lt, bne_eq_false_iff_eq, Bool.or_eq_true, Bool.and_eq_true, Bool.or_eq_false_iff] at hc)))
        apply SeqP.eff
        · rfl
        intro KE hKE
        go_wp2_with fail
        refine hKE _ _ (hTP' _ HP2.out.2.1) ?_
        clear hKE KE
        go_wp2_with (first
          | (apply SeqP.skip; rfl; simp only [Act.put, List.setIfInBounds_toArray, List.set_cons_zero, List.set_cons_succ])
          | (apply SeqP.call; rfl; rfl; (intro w2 hw; have hw := hTP _ hw; (skip); go_simp; exact ⟨rfl, rfl⟩); (intro w2 hw; have hw := hTP _ hw; (skip); (first | fail)); simp only [Act.put, List.setIfInBounds_toArray, List.set_cons_zero, List.set_cons_succ])
          | (apply SeqP.pure; rfl; (intro w2 hw; have hw := hTP _ hw; (skip); go_simp; with_reducible rfl); simp only [Act.put, List.setIfInBounds_toArray, List.set_cons_zero, List.set_cons_succ])
          | (apply SeqP.split; rfl; rfl; all_goals (intro hc; simp only [hc]; try simp only [beq_iff_eq, decide_eq_true_eq, beq_eq_false_iff_ne, decide_eq_false_iff_not, bne_iff_ne, ne_eq, Bool.not_eq_true', Bool.not_eq_false', Int.not_le, Int.not_lt, bne_eq_false_iff_eq, Bool.or_eq_true, Bool.and_eq_true, Bool.or_eq_false_iff] at hc)))
        apply SeqP.nil
        refine hKP _ _ (hTP' _ (HP2.out.2.1)) ?_
        clear hKP hTP hTP'
        have hcs : ((mailv (backV x.m 5 x.m.epoch)).set 7 (.int .i64 (qa.log.length : Int))).set 8 (.int .i64 x.m.stamp) = mailv (ackV qa x.m) := rfl
        have h14 := HP2.out.2
        rw [hcs] at h14
        obtain ⟨av, hav⟩ : ∃ av, ackV qa x.m = av := ⟨_, rfl⟩
        have HAV := Lib.hid (show av.m = ackM qa x.m ∧ av.o = (0, 0, 0, 0, 0) ∧ av.an = (0, 0, 0) ∧ av.es = (none, 0, 0) ∧ av.m.ents = [] from by rw [← hav]; exact ⟨rfl, rfl, rfl, rfl, rfl⟩)
        rw [hav] at h14
        clear HP2 hcs c7 z7 c8 z8 hav
        generalize ((we.setCell ⟨g, 7, none⟩ (.int .i64 (qa.log.length : Int))).setCell ⟨g, 8, none⟩ (.int .i64 x.m.stamp)) = wf at h14 ⊢
        have H15 := Lib.hid (h14.keep (Below.refl _ _).drew)
        clear h14
        go_wp2_with fail
        refine wp_region_p ([(0, true), (1, true), (3, true), (2, false), (4, true)]) (fun w' => Below w9.heap.size w9 w' ∧ Blk w' g 43 (mailv av)) (by kernel_rfl) rfl (by kernel_rfl) (by kernel_rfl) (⟨H15.out.1, H15.out.2.1⟩) rfl ?_
        intro KP RP TP hKP hTP hTP'
        simp only [List.append_eq, List.cons_append, List.nil_append, pick, nth]
        generalize wf.drew = wh at *
        go_wp2_with (first
          | (apply SeqP.skip; rfl; simp only [Act.put, List.setIfInBounds_toArray, List.set_cons_zero, List.set_cons_succ])
          | (apply SeqP.pure; rfl; (intro w2 hw; have hw := hTP _ hw; exact exec_load_blk 43 _ rfl _ rfl _ _ (hw.2) _ Try.underlying43 rfl mail_info); simp only [Act.put, List.setIfInBounds_toArray, List.set_cons_zero, List.set_cons_succ])
          | (apply SeqP.call; rfl; rfl; (intro w2 hw; have hw := hTP _ hw; ((obtain ⟨q2, q8⟩ := FB2 _ hw.1)); go_simp; exact ⟨rfl, rfl⟩); (intro w2 hw; have hw := hTP _ hw; ((obtain ⟨q2, q8⟩ := FB2 _ hw.1)); (first | fail)); simp only [Act.put, List.setIfInBounds_toArray, List.set_cons_zero, List.set_cons_succ])
          | (apply SeqP.pure; rfl; (intro w2 hw; have hw := hTP _ hw; ((obtain ⟨q2, q8⟩ := FB2 _ hw.1)); go_simp; with_reducible rfl); simp only [Act.put, List.setIfInBounds_toArray, List.set_cons_zero, List.set_cons_succ])
          | (apply SeqP.split; rfl; rfl; all_goals (intro hc; simp only [hc]; try simp only [beq_iff_eq, decide_eq_true_eq, beq_eq_false_iff_ne, decide_eq_false_iff_not, bne_iff_ne, ne_eq, Bool.not_eq_true', Bool.not_eq_false', Int.not_le, Int.not_lt, bne_eq_false_iff_eq, Bool.or_eq_true, Bool.and_eq_true, Bool.or_eq_false_iff] at hc)))
        have hy0 : LogAt wh wh.heap.size av.es av.m.ents := by rw [HAV.out.2.2.2.1, HAV.out.2.2.2.2]; exact LogAt.nil
        have ha := H15.out.1.alloc H15.out.1.size (.cells (mailv av).toArray 43)
        have hml := mails_lit wh av hy0
        have hrr := H9.out.2.2.1.keep ha
        have HF := Lib.hid (And.intro ha (And.intro hml (And.intro hrr (H15.out.2.1.alloc (.cells (mailv av).toArray 43)))))
        clear hy0 ha hml hrr
        unfold mailv at HF
        apply SeqP.eff
        · rfl
        intro KE hKE
        simp only [mailv]
        go_wp2_with fail
        refine hKE _ _ (hTP' _ ⟨HF.out.1, HF.out.2.2.2⟩) ?_
        clear hKE KE
        go_wp2_with (first
          | (apply SeqP.skip; rfl; simp only [Act.put, List.setIfInBounds_toArray, List.set_cons_zero, List.set_cons_succ])
          | (apply SeqP.call; rfl; rfl; (intro w2 hw; have hw := hTP _ hw; ((obtain ⟨q2, q8⟩ := FB2 _ hw.1)); go_simp; exact ⟨rfl, rfl⟩); (intro w2 hw; have hw := hTP _ hw; ((obtain ⟨q2, q8⟩ := FB2 _ hw.1)); (first | fail)); simp only [Act.put, List.setIfInBounds_toArray, List.set_cons_zero, List.set_cons_succ])
          | (apply SeqP.pure; rfl; (intro w2 hw; have hw := hTP _ hw; ((obtain ⟨q2, q8⟩ := FB2 _ hw.1)); go_simp; with_reducible rfl); simp only [Act.put, List.setIfInBounds_toArray, List.set_cons_zero, List.set_cons_succ])
          | (apply SeqP.split; rfl; rfl; all_goals (intro hc; simp only [hc]; try simp only [beq_iff_eq, decide_eq_true_eq, beq_eq_false_iff_ne, decide_eq_false_iff_not, bne_iff_ne, ne_eq, Bool.not_eq_true', Bool.not_eq_false', Int.not_le, Int.not_lt, bne_eq_false_iff_eq, Bool.or_eq_true, Bool.and_eq_true, Bool.or_eq_false_iff] at hc)))
        apply SeqP.nil
        refine hKP _ _ (hTP' _ ⟨HF.out.1, HF.out.2.2.2⟩) ?_
        clear hKP hTP hTP'
        go_wp2_with fail
        go_ret2
        rw [HS.out]
        exact ⟨⟨_, _, _, 1, ([xv]), [av], rfl, HF.out.2.2.1, HF.out.2.1, HXS.out.1, by rw [← HAV.out.1]; rfl, HXS.out.2, fun z hz => by rw [List.mem_singleton.1 hz]; exact ⟨HAV.out.2.1, HAV.out.2.2.1⟩⟩, by show RB _ rb gr (bookE 1 E U x.m.stream x.m.epoch) (bookU 1 E U x.m.stream x.m.epoch now); unfold bookE bookU; rw [if_pos rfl, if_pos rfl]; exact Blk.keep H9.out.2.2.2.1 HF.out.1, H9.out.2.2.2.2.trans (Kept.ofBelow HF.out.1 _ _)⟩
end Go.Proofs.Ytdphfhenjndkkaa

set_option linter.unusedSimpArgs false
set_option linter.unusedVariables false
set_option maxRecDepth 100000
namespace Go.Proofs.Ytdphfhenjndkkaa
open Go Go.RowKit Go.Sq Go.Wd Go.Arch Go.Im

set_option maxHeartbeats 16000000 in
theorem rdlay_old (r : RegS) (sl : SlcE) (rb : Nat) (gr : Int) (E U : Nat → Int) (x : MailV) (now : Int) (w : World) (hB : RB w rb gr E U) (hbz : RBz E U) (h1s : x.m.stream = 1) (h0 : 0 ≤ now) (hl : LogAt w w.heap.size sl r.log) (hx : LogAt w w.heap.size x.es x.m.ents) (hx2 : x.m.ents.length ≤ 1000) (hok : mailOk r x.m) (hst : ¬ (x.m.epoch < r.prom ∨ (r.view < x.m.epoch ∧ 0 < x.m.base) ∨ (r.log.length : Int) < x.m.base)) (hS : ¬ r.view < x.m.epoch) (hJ0 : joinM r x.m <+: r.log) :
    Calls Try.prog 45 #[.agg (rgv r sl).toArray, .pointer (some ⟨rb, 0, none⟩), .agg (mailv x).toArray, .int .i64 now] w (RTakeP (layS r x.m) rb gr E U x.m now w) := by
  obtain ⟨k1, k2, k3, k4, k5, k6⟩ := hok
  have m64 : r.log.length ≤ 64 := ((okLog_iff _ _).1 ((mayR_iff r).1 k1).2.1).1
  have hvp := ((mayR_iff r).1 k1).1.2.1
  obtain ⟨bn, hbn⟩ := Int.eq_ofNat_of_zero_le k4
  have hI0 : DgI w ((w.alloc (.cells (rgv r sl).toArray 37)).alloc (.cells (mailv x).toArray 43)) r sl x rb gr E U := ⟨RpI.new (x := x) hl, hx.keep (RpI.new (x := x) hl).1, Blk.keep hB (RpI.new (x := x) hl).1⟩
  have hsn : sl.2.1 = r.log.length := hl.1
  have FC : ∀ W, RpI w W r sl x → (W.cell? ⟨w.heap.size + 1, 3, none⟩ = some (.int .i64 x.m.stream) ∧ W.cell? ⟨w.heap.size + 1, 4, none⟩ = some (.int .i64 x.m.epoch) ∧ W.cell? ⟨w.heap.size + 1, 6, none⟩ = some (.int .i64 x.m.base) ∧ W.cell? ⟨w.heap.size + 1, 7, none⟩ = some (.int .i64 x.m.len) ∧ W.cell? ⟨w.heap.size + 1, 8, none⟩ = some (.int .i64 x.m.stamp)) ∧
      W.cell? ⟨w.heap.size, 0, none⟩ = some (.int .i64 r.prom) ∧ W.cell? ⟨w.heap.size, 1, none⟩ = some (.int .i64 r.view) ∧ W.cell? ⟨w.heap.size, 2, none⟩ = some (.slice sl.1 sl.2.1 sl.2.2) := fun W h => ⟨⟨h.2.2.1.cell 3, h.2.2.1.cell 4, h.2.2.1.cell 6, h.2.2.1.cell 7, h.2.2.1.cell 8⟩, h.2.1.cell 0, h.2.1.cell 1, h.2.1.cell 2⟩
  have FD : ∀ W, DgI w W r sl x rb gr E U → W.cell? ⟨w.heap.size + 1, 6, none⟩ = some (.int .i64 (bn : Int)) ∧ W.cell? ⟨w.heap.size + 1, 9, none⟩ = some (.slice x.es.1 x.m.ents.length x.es.2.2) ∧ W.cell? ⟨w.heap.size, 2, none⟩ = some (.slice sl.1 sl.2.1 sl.2.2) := fun W h =>
    ⟨by rw [← hbn]; exact h.1.2.2.1.cell 6, by have h9 := h.1.2.2.1.cell 9; rw [h9]; show some (Value.slice x.es.1 x.es.2.1 x.es.2.2) = _; rw [hx.1], h.1.2.1.cell 2⟩
  have HI := Lib.hid hI0
  have HB := Lib.hid (And.intro hB (And.intro hbz h1s))
  have HK := Lib.hid (And.intro k1 (And.intro h0 (And.intro hx2 (And.intro hl (And.intro hx (And.intro m64 (And.intro hsn hbn)))))))
  obtain ⟨⟨f3, f4, f6, f7, f8⟩, g0, g1, g2⟩ := FC _ HI.out.1
  have c1 : ¬ x.m.epoch < r.prom := fun h => hst (.inl h)
  have hng : ¬ ((r.view < x.m.epoch ∧ 0 < x.m.base) ∨ (r.log.length : Int) < x.m.base) := fun h => hst (.inr h)
  have HL1 : Hid (grownS r x.m = none → layS r x.m = nothing) := Lib.hid (fun h => lay_none c1 hng h)
  have HL2 : Hid (∀ l q, grownS r x.m = some (l, q) → layS r x.m = ⟨l ++ comS q x.m, [ackM q x.m], 1⟩) := Lib.hid (fun l q h => lay_some c1 hng h)
  have a2 : ¬ (sl.2.1 : Int) < x.m.base := fun h => hng (.inr (by rw [← hsn]; exact h))
  have b1 : bn ≤ r.log.length := by omega
  have b2 : (bn : Int) ≤ (sl.2.2 : Int) := by have := hl.2.1; omega
  have b3 : bn ≤ sl.2.1 := by omega
  have b4 : (bn : Int) ≤ (sl.2.1 : Int) := by omega
  have hcs : (r.view < x.m.epoch ∧ ¬ 0 < x.m.base ∧ (x.m.epoch != r.view) = true ∧ (x.m.epoch == r.view) = false ∧ Hid (x.m.epoch ≠ r.view ∧ bn = 0)) ∨ (¬ r.view < x.m.epoch ∧ (x.m.epoch != r.view) = false ∧ (x.m.epoch == r.view) = true ∧ Hid (x.m.epoch = r.view)) := by
    by_cases h : r.view < x.m.epoch
    · exact .inl ⟨h, fun h2 => hng (.inl ⟨h, h2⟩), bne_iff_ne.2 (by omega), beq_eq_false_iff_ne.2 (by omega), Lib.hid ⟨by omega, by have : ¬ 0 < x.m.base := fun h2 => hng (.inl ⟨h, h2⟩); omega⟩⟩
    · have he : x.m.epoch = r.view := by omega
      exact .inr ⟨h, by rw [he]; simp, beq_iff_eq.2 he, Lib.hid he⟩
  clear hI0 hl hB k1 k2 k3 k4 k5 k6 hx hx2 m64 hbn hst hng hvp hbz h1s
  obtain ⟨a1, e1, e2, HV⟩ := hcs.resolve_left (fun h => hS h.1)
  have HP0 := Lib.hid hJ0
  clear hS hJ0
  try clear a3
  clear hsn
  go_enter Try.func45, Try.ntmps45
  go_wp2_with fail
  refine abs_code (fun W => DgI w W r sl x rb gr E U) HI.out ?_
  clear HI c1 a1 a2 f3 f4 f6 f7 f8 g0 g1 g2
  try clear a3
  intro w1 h1
  obtain ⟨wd, hwd⟩ : ∃ wd, w1.drew = wd := ⟨_, rfl⟩
  have h1d : DgI w wd r sl x rb gr E U := by rw [← hwd]; exact h1.keep (Below.refl _ _).drew
  clear h1
  refine wp_region_p ([(0, true), (1, true), (2, true), (3, true), (4, true), (6, true), (7, true), (5, false), (8, false), (9, true)]) (fun w' => DgI w w' r sl x rb gr E U) (by kernel_rfl) rfl (by kernel_rfl) (by kernel_rfl) (by rw [hwd]; exact h1d) rfl ?_
  intro KP RP TP hKP hTP hTP'
  simp only [List.append_eq, List.cons_append, List.nil_append, pick, nth]
  rw [hwd]
  clear hwd
  have H1 := Lib.hid h1d
  clear h1d
  go_wp2_with (first
    | (apply SeqP.skip; rfl; simp only [Act.put, List.setIfInBounds_toArray, List.set_cons_zero, List.set_cons_succ])
    | (apply SeqP.call; rfl; rfl; (intro w2 hw; have hw := hTP _ hw; ((obtain ⟨q6, q9, q2⟩ := FD _ hw)); go_simp; exact ⟨rfl, rfl⟩); (intro w2 hw; have hw := hTP _ hw; ((obtain ⟨q6, q9, q2⟩ := FD _ hw)); (first | fail)); simp only [Act.put, List.setIfInBounds_toArray, List.set_cons_zero, List.set_cons_succ])
    | (apply SeqP.pure; rfl; (intro w2 hw; have hw := hTP _ hw; ((obtain ⟨q6, q9, q2⟩ := FD _ hw)); go_simp; with_reducible rfl); simp only [Act.put, List.setIfInBounds_toArray, List.set_cons_zero, List.set_cons_succ])
    | (apply SeqP.split; rfl; rfl; all_goals (intro hc; simp only [hc]; try simp only [beq_iff_eq, decide_eq_true_eq, beq_eq_false_iff_ne, decide_eq_false_iff_not, bne_iff_ne, ne_eq, Bool.not_eq_true', Bool.not_eq_false', Int.not_le, Int.not_lt, bne_eq_false_iff_eq, Bool.or_eq_true, Bool.and_eq_true, Bool.or_eq_false_iff] at hc)))
  obtain ⟨v1, w2, hrun1, hR1, hg1, _⟩ := Row.app (Row.nil wd wd.heap.size) sl.1 sl.2.2 (LogAt.front (A := sl.1) (n := sl.2.1) (cap := sl.2.2) H1.out.1.2.2.2 b3).2.2.2 (by rw [List.length_take]; have := HK.out.2.2.2.2.2.1; simp; omega) (Nat.le_refl _)
  have htl : (r.log.take bn).length = bn := by rw [List.length_take]; omega
  rw [htl] at hrun1
  rw [List.nil_append] at hR1
  have hb1 : Below wd.heap.size wd w2 := ⟨hg1.os, hg1.tape, hg1.output, hg1.size, fun k hk => hg1.block k hk (by simp [Value.ownBlock])⟩
  have h2 := H1.out.keep hb1
  obtain ⟨v2, w3, hrun2, hR2, hg2, _⟩ := Row.app hR1 x.es.1 x.es.2.2 h2.2.1.2.2.2 (by rw [htl]; have := HK.out.2.2.1; have := HK.out.2.2.2.2.2.1; omega) hb1.size
  have hb2 : Below wd.heap.size wd w3 := below_own hb1 hg2 hR1 hb1.size
  have h3 := H1.out.keep hb2
  have hwz := H1.out.1.1.size
  have hwz2 : w.heap.size + 1 < wd.heap.size := H1.out.1.2.2.1.lt
  have HP := Lib.hid (And.intro h2 h3)
  apply SeqP.eff
  · rfl
  intro KE hKE
  refine oper_app (by rfl) (by rfl) (by rfl) hrun1 ?_
  refine hKE _ _ (hTP' _ HP.out.1) ?_
  clear hKE KE hrun1 hR1 hg1 hb1 h2
  go_wp2_with (first
    | (apply SeqP.skip; rfl; simp only [Act.put, List.setIfInBounds_toArray, List.set_cons_zero, List.set_cons_succ])
    | (apply SeqP.call; rfl; rfl; (intro w2 hw; have hw := hTP _ hw; ((obtain ⟨q6, q9, q2⟩ := FD _ hw)); go_simp; exact ⟨rfl, rfl⟩); (intro w2 hw; have hw := hTP _ hw; ((obtain ⟨q6, q9, q2⟩ := FD _ hw)); (first | fail)); simp only [Act.put, List.setIfInBounds_toArray, List.set_cons_zero, List.set_cons_succ])
    | (apply SeqP.pure; rfl; (intro w2 hw; have hw := hTP _ hw; ((obtain ⟨q6, q9, q2⟩ := FD _ hw)); go_simp; with_reducible rfl); simp only [Act.put, List.setIfInBounds_toArray, List.set_cons_zero, List.set_cons_succ])
    | (apply SeqP.split; rfl; rfl; all_goals (intro hc; simp only [hc]; try simp only [beq_iff_eq, decide_eq_true_eq, beq_eq_false_iff_ne, decide_eq_false_iff_not, bne_iff_ne, ne_eq, Bool.not_eq_true', Bool.not_eq_false', Int.not_le, Int.not_lt, bne_eq_false_iff_eq, Bool.or_eq_true, Bool.and_eq_true, Bool.or_eq_false_iff] at hc)))
  apply SeqP.eff
  · rfl
  intro KE hKE
  refine oper_app (by rfl) (by rfl) (by rfl) hrun2 ?_
  refine hKE _ _ (hTP' _ HP.out.2) ?_
  clear hKE KE hrun2 hg2 hb2 h3
  go_wp2_with (first
    | (apply SeqP.skip; rfl; simp only [Act.put, List.setIfInBounds_toArray, List.set_cons_zero, List.set_cons_succ])
    | (apply SeqP.call; rfl; rfl; (intro w2 hw; have hw := hTP _ hw; ((obtain ⟨q6, q9, q2⟩ := FD _ hw)); go_simp; exact ⟨rfl, rfl⟩); (intro w2 hw; have hw := hTP _ hw; ((obtain ⟨q6, q9, q2⟩ := FD _ hw)); (first | fail)); simp only [Act.put, List.setIfInBounds_toArray, List.set_cons_zero, List.set_cons_succ])
    | (apply SeqP.pure; rfl; (intro w2 hw; have hw := hTP _ hw; ((obtain ⟨q6, q9, q2⟩ := FD _ hw)); go_simp; with_reducible rfl); simp only [Act.put, List.setIfInBounds_toArray, List.set_cons_zero, List.set_cons_succ])
    | (apply SeqP.split; rfl; rfl; all_goals (intro hc; simp only [hc]; try simp only [beq_iff_eq, decide_eq_true_eq, beq_eq_false_iff_ne, decide_eq_false_iff_not, bne_iff_ne, ne_eq, Bool.not_eq_true', Bool.not_eq_false', Int.not_le, Int.not_lt, bne_eq_false_iff_eq, Bool.or_eq_true, Bool.and_eq_true, Bool.or_eq_false_iff] at hc)))
  apply SeqP.nil
  refine hKP _ _ (hTP' _ (HP.out.2)) ?_
  clear hKP hTP hTP'
  have hJe : joinM r x.m = r.log.take bn ++ x.m.ents := by unfold joinM; rw [HK.out.2.2.2.2.2.2.2, Int.toNat_natCast]
  rw [← hJe] at hR2
  have hJl : (joinM r x.m).length ≤ bn + x.m.ents.length := by rw [hJe, List.length_append, htl]; omega
  obtain ⟨J, hJ⟩ : ∃ J, joinM r x.m = J := ⟨_, rfl⟩
  rw [hJ] at hJl hR2
  have HJ := Lib.hid (And.intro hJ (And.intro hJl (show bn ≤ 64 from by have := HK.out.2.2.2.2.2.1; omega)))
  have HJ0 := Lib.hid b3
  clear hJe hJ hJl htl
  obtain ⟨AJ, cJ, rfl, hLJ, hwJ⟩ := hR2.form2
  have hwJ2 : (0 < J.length → ∃ q, AJ = some ⟨q, 0, none⟩) ∧ ∀ b o, AJ = some ⟨b, o, none⟩ → b < w3.heap.size := ⟨fun h => by
    obtain ⟨q, e, _, h2⟩ := hwJ h
    exact ⟨q, e⟩, fun b o e => by
    subst e
    rcases id hR2.2 with ⟨h', _⟩ | ⟨g, cap, cur, h', hg, _⟩
    · injection h' with e1
      cases e1
    · injection h' with e1
      cases e1
      exact (hR2.lt _ rfl).2⟩
  have H3 := Lib.hid (And.intro HP.out.2 (And.intro hLJ hwJ2))
  clear hLJ hwJ hwJ2 hR2 HP H1 hwz hwz2
  obtain ⟨⟨f3, f4, f6, f7, f8⟩, g0, g1, g2⟩ := FC _ H3.out.1.1
  go_wp2_with ((with_reducible refine at_list ?_); first | (with_reducible refine cut_at 72 rfl ?_) | refine wpList_load_blk rfl 37 _ rfl _ rfl _ _ _ (H3.out.1.1.2.1) Try.underlying37 rfl rg_info ?_ | (refine wpList_store_own rfl 37 _ _ rfl _ (rgv r sl) rfl rfl _ _ (Blk.new w3 37 (rgv reg0 (none, 0, 0))) rg_info rfl (rgv_one _ _) ?_; intro w4 B4 g4))
  refine Cut.go ?_
  have hb4 := below_new g4
  have H4 := Lib.hid (show DgJ w w4 r sl x rb gr E U J (AJ, J.length, cJ) w3.heap.size from ⟨H3.out.1.keep hb4, ⟨H3.out.2.1.keep hb4, H3.out.2.2⟩, B4, H3.out.1.1.2.2.1.lt⟩)
  clear hb4 B4 g4 H3 f3 f4 f6 f7 f8 g0 g1 g2 b1 b2 b3 b4
  generalize w3.heap.size = g13 at H4 ⊢
  obtain ⟨⟨f3, f4, f6, f7, f8⟩, g0, g1, g2⟩ := FC _ H4.out.1.1
  go_wp2_with fail
  refine (begins_sl r.log J sl (AJ, J.length, cJ) w4 H4.out.1.1.2.2.2 H4.out.2.1.1).mono ?_
  rintro e w5 ⟨rfl, hb5⟩
  have H5 := Lib.hid (H4.out.keep hb5)
  clear hb5 H4 f3 f4 f6 f7 f8 g0 g1 g2
  obtain ⟨⟨f3, f4, f6, f7, f8⟩, g0, g1, g2⟩ := FC _ H5.out.1.1
  by_cases hp1 : J <+: r.log
  case pos =>
    rw [decide_eq_true hp1]
    have hS : grownS r x.m = some ([], r) := by unfold grownS; rw [if_pos HV.out, HJ.out.1, if_pos hp1]
    have HS := Lib.hid hS
    clear hp1 hS
    go_wp2_with ((with_reducible refine at_list ?_); (with_reducible refine cut_at 130 rfl ?_))
    refine Cut.go ?_
    have HQ := Lib.hid (show grownS r x.m = some (([] : List RecV).map RecV.s, r) ∧ (∀ y ∈ ([] : List RecV), y.fs = (none, 0, 0)) ∧ sl.2.1 = r.log.length from ⟨HS.out, by simp, HK.out.2.2.2.2.2.2.1⟩)
    have HD := Lib.hid (show DyK w w5 x g13 r sl (.slice none 0 0) [] rb gr E U from ⟨H5.out.1.1.1, H5.out.1.1.2.2.1, RRow.nil _ _, H5.out.2.2.1, H5.out.1.2.2, H5.out.2.2.2⟩)
    clear H5 HS f3 f4 f6 f7 f8 g0 g1 g2
    obtain ⟨wz, rfl⟩ : ∃ wz, wz = w5 := ⟨_, rfl⟩
    obtain ⟨mn, hmn⟩ : ∃ mn, min x.m.len (r.log.length : Int) = mn := ⟨_, rfl⟩
    have HMN := Lib.hid hmn
    have f3 : wz.cell? ⟨w.heap.size + 1, 3, none⟩ = some (.int .i64 x.m.stream) := HD.out.2.1.cell 3
    have f7 : wz.cell? ⟨w.heap.size + 1, 7, none⟩ = some (.int .i64 x.m.len) := HD.out.2.1.cell 7
    have c2 : wz.cell? ⟨g13, 2, none⟩ = some (.slice sl.1 r.log.length sl.2.2) := by rw [← HQ.out.2.2]; exact HD.out.2.2.2.1.cell 2
    have c3 : wz.cell? ⟨g13, 3, none⟩ = some (.int .i64 r.com) := HD.out.2.2.2.1.cell 3
    clear hmn
    by_cases hml : (r.log.length : Int) < x.m.len
    case' pos => have hmm : (r.log.length : Int) = mn := by have := HMN.out; omega
    case' neg => have hmm : x.m.len = mn := by have := HMN.out; omega
    all_goals
      have HMM := Lib.hid hmm
      clear hmm
      go_wp2_with ((with_reducible refine at_list ?_); (with_reducible refine cut_at 137 rfl ?_))
      refine Cut.go ?_
      rw [HMM.out]
      clear HMM hml f7 c2
      by_cases hp : r.com < mn
      case pos =>
        have hcc : comS r x.m = [(recCn x.m mn).s] := by
          unfold comS
          rw [HMN.out, if_pos hp]
          unfold recC
          rw [HMN.out]
          rfl
        have HC := Lib.hid hcc
        obtain ⟨v2, w6, hrun, hR6, hg6⟩ := RRow.snoc HD.out.2.2.1 (recCn x.m mn) ⟨LogAt.nil, fun b o e => by cases e⟩ (by simp) HD.out.1.size
        obtain ⟨A2, c22, rfl, -, -, -⟩ := hR6.recs
        have h6 : DyK w w6 x g13 r sl (.slice A2 (([] : List RecV) ++ [recCn x.m mn]).length c22) (([] : List RecV) ++ [recCn x.m mn]) rb gr E U :=
          ⟨Gr.below_row HD.out.1 hg6 HD.out.2.2.1.1 HD.out.1.size, blk_beside HD.out.2.1 (by decide) HD.out.2.2.1 hg6, hR6, blk_beside HD.out.2.2.2.1 (by decide) HD.out.2.2.1 hg6, blk_beside HD.out.2.2.2.2.1 (by decide) HD.out.2.2.1 hg6, HD.out.2.2.2.2.2⟩
        have HY := Lib.hid (show DyK w w6 x g13 r sl (.slice A2 (([] : List RecV) ++ [recCn x.m mn]).length c22) (([] : List RecV) ++ [recCn x.m mn]) rb gr E U ∧ (([] : List RecV) ++ [recCn x.m mn]).map RecV.s = (([] : List RecV)).map RecV.s ++ comS r x.m ∧ (∀ y ∈ ([] : List RecV) ++ [recCn x.m mn], y.fs = (none, 0, 0)) from
          ⟨h6, by rw [HC.out, List.map_append]; rfl, fun y hy => by
            rcases List.mem_append.1 hy with h | h
            · exact HQ.out.2.1 y h
            · rw [List.mem_singleton.1 h]; rfl⟩)
        clear h6 hR6 hg6 hcc HC HD
        unfold recCn rcv at hrun
        dsimp only at hrun
        go_wp2_with (first | ((with_reducible refine at_list ?_); (with_reducible refine cut_at 148 rfl ?_)) | (at_builtin; refine wpList_app rfl (by rfl) (by rfl) (by rfl) hrun ?_))
        refine Cut.go ?_
        clear hrun f3 c3 hp
        obtain ⟨wy, rfl⟩ : ∃ wy, wy = w6 := ⟨_, rfl⟩
        have f3 : wy.cell? ⟨w.heap.size + 1, 3, none⟩ = some (.int .i64 x.m.stream) := HY.out.1.2.1.cell 3
        have f4 : wy.cell? ⟨w.heap.size + 1, 4, none⟩ = some (.int .i64 x.m.epoch) := HY.out.1.2.1.cell 4
        have HS := Lib.hid (HL2.out _ _ HQ.out.1)
        have hokE : ∀ z ∈ (layS r x.m).recs, OkE z.ents := by
          rw [HS.out]
          intro z hz
          rcases List.mem_append.1 hz with h | h
          · exact grown_ok HQ.out.1 z h
          · exact com_ok z h
        have HO := Lib.hid hokE
        clear hokE
        go_wp2_with fail
        refine (rgrant_any rb gr E U x.m.stream x.m.epoch now (by have := HK.out.2.1; omega) wy HY.out.1.2.2.2.2.1).mono ?_
        rintro e w9 ⟨rfl, hR9, hg9⟩
        have hne : ∀ m, m ≠ rb → some m ≠ some rb := fun m h e => h (Option.some.inj e)
        have hrb : rb < w.heap.size := Blk.lt HB.out.1
        have hM9 := HY.out.1.2.1.grown hg9 (hne _ (by omega))
        have hQ9 := HY.out.1.2.2.2.1.grown hg9 (hne _ (by have := HY.out.1.2.2.2.2.2; omega))
        have hX9 := (HY.out.1.2.2.1.rcs).rb HY.out.1.2.2.2.2.1 hg9 (fun y hy => by
          obtain ⟨v, hv⟩ := HO.out y.s (by rw [HS.out]; show y.s ∈ _; rw [← HY.out.2.1]; exact List.mem_map_of_mem hy)
          exact (HY.out.1.2.2.1.rcs.2 y hy).rb hv HY.out.1.2.2.2.2.1 HB.out.2.1 hg9)
        have hK9 : Kept w w9 (some rb) none := (Kept.ofBelow HY.out.1.1 _ _).trans (Kept.ofGrown hg9)
        have HXS := Lib.hid HY.out.2
        have H9 := Lib.hid (And.intro hM9 (And.intro hQ9 (And.intro hX9 (And.intro hR9 hK9))))
        clear hM9 hQ9 hX9 hR9 hg9 hK9 HY f3 f4 hne hrb HO
        have f4 : w9.cell? ⟨w.heap.size + 1, 4, none⟩ = some (.int .i64 x.m.epoch) := H9.out.1.cell 4
        go_wp2_with ((with_reducible refine at_list ?_); first | refine wpList_load_blk rfl 43 _ rfl _ rfl _ _ _ (H9.out.1) Try.underlying43 rfl mail_info ?_)
        refine (rback_any x 5 x.m.epoch w9).mono ?_
        rintro e w10 ⟨rfl, hb10⟩
        have H10 := Lib.hid hb10
        clear hb10 f4
        go_wp2_with ((with_reducible refine at_list ?_); first | (refine wpList_store_own rfl 43 _ _ rfl _ (mailv (backV x.m 5 x.m.epoch)) rfl rfl _ _ (Blk.new w10 43 (mailv backV0)) mail_info rfl (mail_one _) ?_; intro w11 B11 g11))
        have hb11 := below_new g11
        have h11 : PrS w9 w10.heap.size 43 (mailv (backV x.m 5 x.m.epoch)) (none, 0, 0) [] w11.drew := PrS.keep ⟨below_trans H10.out hb11 H10.out.size, B11, LogAt.nil, H10.out.size, by simp⟩ (Below.refl _ _).drew
        have H11 := Lib.hid h11
        clear hb11 B11 g11 h11 H10
        have FB2 : ∀ W, Below w9.heap.size w9 W → W.cell? ⟨g13, 2, none⟩ = some (.slice sl.1 r.log.length sl.2.2) ∧ W.cell? ⟨w.heap.size + 1, 8, none⟩ = some (.int .i64 x.m.stamp) := fun W h => ⟨by rw [← HQ.out.2.2]; exact (H9.out.2.1.keep h).cell 2, (H9.out.1.keep h).cell 8⟩
        refine wp_region_p ([(0, true), (1, true), (2, true), (3, true), (4, true), (5, true), (6, false), (7, true), (8, false)]) (fun w' => Below w9.heap.size w9 w') (by kernel_rfl) rfl (by kernel_rfl) (by kernel_rfl) (H11.out.1) rfl ?_
        intro KP RP TP hKP hTP hTP'
        simp only [List.append_eq, List.cons_append, List.nil_append, pick, nth]
        generalize w11.drew = we at *
        generalize w10.heap.size = g at *
        go_wp2_with (first
          | (apply SeqP.skip; rfl; simp only [Act.put, List.setIfInBounds_toArray, List.set_cons_zero, List.set_cons_succ])
          | (apply SeqP.call; rfl; rfl; (intro w2 hw; have hw := hTP _ hw; ((obtain ⟨q2, q8⟩ := FB2 _ hw)); go_simp; exact ⟨rfl, rfl⟩); (intro w2 hw; have hw := hTP _ hw; ((obtain ⟨q2, q8⟩ := FB2 _ hw)); (first | fail)); simp only [Act.put, List.setIfInBounds_toArray, List.set_cons_zero, List.set_cons_succ])
          | (apply SeqP.pure; rfl; (intro w2 hw; have hw := hTP _ hw; ((obtain ⟨q2, q8⟩ := FB2 _ hw)); go_simp; with_reducible rfl); simp only [Act.put, List.setIfInBounds_toArray, List.set_cons_zero, List.set_cons_succ])
          | (apply SeqP.split; rfl; rfl; all_goals (intro hc; simp only [hc]; try simp only [beq_iff_eq, decide_eq_true_eq, beq_eq_false_iff_ne, decide_eq_false_iff_not, bne_iff_ne, ne_eq, Bool.not_eq_true', Bool.not_eq_false', Int.not_le, Int.not_lt, bne_eq_false_iff_eq, Bool.or_eq_true, Bool.and_eq_true, Bool.or_eq_false_iff] at hc)))
        have h12 := H11.out.set 7 (.int .i64 (r.log.length : Int))
        have h13 := h12.set 8 (.int .i64 x.m.stamp)
        have HP2 := Lib.hid (And.intro h12 h13)
        have c7 : we.cell? ⟨g, 7, none⟩ = some (.int .i64 0) := H11.out.2.1.cell 7
        have z7 : we.frozen? ⟨g, 7, none⟩ = false := H11.out.2.1.frozen 7
        have c8 : we.cell? ⟨g, 8, none⟩ = some (.int .i64 0) := H11.out.2.1.cell 8
        have z8 : we.frozen? ⟨g, 8, none⟩ = false := H11.out.2.1.frozen 8
        clear h12 h13 H11
        apply SeqP.eff
        · rfl
        intro KE hKE
        go_wp2_with fail
        refine hKE _ _ (hTP' _ HP2.out.1.1) ?_
        clear hKE KE
        go_wp2_with (first
          | (apply SeqP.skip; rfl; simp only [Act.put, List.setIfInBounds_toArray, List.set_cons_zero, List.set_cons_succ])
          | (apply SeqP.call; rfl; rfl; (intro w2 hw; have hw := hTP _ hw; (skip); go_simp; exact ⟨rfl, rfl⟩); (intro w2 hw; have hw := hTP _ hw; (skip); (first | fail)); simp only [Act.put, List.setIfInBounds_toArray, List.set_cons_zero, List.set_cons_succ])
          | (apply SeqP.pure; rfl; (intro w2 hw; have hw := hTP _ hw; (skip); go_simp; with_reducible rfl); simp only [Act.put, List.setIfInBounds_toArray, List.set_cons_zero, List.set_cons_succ])
          | (apply SeqP.split; rfl; rfl; all_goals (intro hc; simp only [hc]; try simp only [beq_iff_eq, decide_eq_true_eq, beq_eq_false_iff_ne, decide_eq_false_iff_not, bne_iff_ne, ne_eq, Bool.not_eq_true', Bool.not_eq_false', Int.not_le, Int.not_lt, bne_eq_false_iff_eq, Bool.or_eq_true, Bool.and_eq_true, Bool.or_eq_false_iff] at hc)))
        apply SeqP.eff
        · rfl
        intro KE hKE
        go_wp2_with fail
        refine hKE _ _ (hTP' _ HP2.out.2.1) ?_
        clear hKE KE
        go_wp2_with (first
          | (apply SeqP.skip; rfl; simp only [Act.put, List.setIfInBounds_toArray, List.set_cons_zero, List.set_cons_succ])
          | (apply SeqP.call; rfl; rfl; (intro w2 hw; have hw := hTP _ hw; (skip); go_simp; exact ⟨rfl, rfl⟩); (intro w2 hw; have hw := hTP _ hw; (skip); (first | fail)); simp only [Act.put, List.setIfInBounds_toArray, List.set_cons_zero, List.set_cons_succ])
          | (apply SeqP.pure; rfl; (intro w2 hw; have hw := hTP _ hw; (skip); go_simp; with_reducible rfl); simp only [Act.put, List.setIfInBounds_toArray, List.set_cons_zero, List.set_cons_succ])
          | (apply SeqP.split; rfl; rfl; all_goals (intro hc; simp only [hc]; try simp only [beq_iff_eq, decide_eq_true_eq, beq_eq_false_iff_ne, decide_eq_false_iff_not, bne_iff_ne, ne_eq, Bool.not_eq_true', Bool.not_eq_false', Int.not_le, Int.not_lt, bne_eq_false_iff_eq, Bool.or_eq_true, Bool.and_eq_true, Bool.or_eq_false_iff] at hc)))
        apply SeqP.nil
        refine hKP _ _ (hTP' _ (HP2.out.2.1)) ?_
        clear hKP hTP hTP'
        have hcs : ((mailv (backV x.m 5 x.m.epoch)).set 7 (.int .i64 (r.log.length : Int))).set 8 (.int .i64 x.m.stamp) = mailv (ackV r x.m) := rfl
        have h14 := HP2.out.2
        rw [hcs] at h14
        obtain ⟨av, hav⟩ : ∃ av, ackV r x.m = av := ⟨_, rfl⟩
        have HAV := Lib.hid (show av.m = ackM r x.m ∧ av.o = (0, 0, 0, 0, 0) ∧ av.an = (0, 0, 0) ∧ av.es = (none, 0, 0) ∧ av.m.ents = [] from by rw [← hav]; exact ⟨rfl, rfl, rfl, rfl, rfl⟩)
        rw [hav] at h14
        clear HP2 hcs c7 z7 c8 z8 hav
        generalize ((we.setCell ⟨g, 7, none⟩ (.int .i64 (r.log.length : Int))).setCell ⟨g, 8, none⟩ (.int .i64 x.m.stamp)) = wf at h14 ⊢
        have H15 := Lib.hid (h14.keep (Below.refl _ _).drew)
        clear h14
        go_wp2_with fail
        refine wp_region_p ([(0, true), (1, true), (3, true), (2, false), (4, true)]) (fun w' => Below w9.heap.size w9 w' ∧ Blk w' g 43 (mailv av)) (by kernel_rfl) rfl (by kernel_rfl) (by kernel_rfl) (⟨H15.out.1, H15.out.2.1⟩) rfl ?_
        intro KP RP TP hKP hTP hTP'
        simp only [List.append_eq, List.cons_append, List.nil_append, pick, nth]
        generalize wf.drew = wh at *
        go_wp2_with (first
          | (apply SeqP.skip; rfl; simp only [Act.put, List.setIfInBounds_toArray, List.set_cons_zero, List.set_cons_succ])
          | (apply SeqP.pure; rfl; (intro w2 hw; have hw := hTP _ hw; exact exec_load_blk 43 _ rfl _ rfl _ _ (hw.2) _ Try.underlying43 rfl mail_info); simp only [Act.put, List.setIfInBounds_toArray, List.set_cons_zero, List.set_cons_succ])
          | (apply SeqP.call; rfl; rfl; (intro w2 hw; have hw := hTP _ hw; ((obtain ⟨q2, q8⟩ := FB2 _ hw.1)); go_simp; exact ⟨rfl, rfl⟩); (intro w2 hw; have hw := hTP _ hw; ((obtain ⟨q2, q8⟩ := FB2 _ hw.1)); (first | fail)); simp only [Act.put, List.setIfInBounds_toArray, List.set_cons_zero, List.set_cons_succ])
          | (apply SeqP.pure; rfl; (intro w2 hw; have hw := hTP _ hw; ((obtain ⟨q2, q8⟩ := FB2 _ hw.1)); go_simp; with_reducible rfl); simp only [Act.put, List.setIfInBounds_toArray, List.set_cons_zero, List.set_cons_succ])
          | (apply SeqP.split; rfl; rfl; all_goals (intro hc; simp only [hc]; try simp only [beq_iff_eq, decide_eq_true_eq, beq_eq_false_iff_ne, decide_eq_false_iff_not, bne_iff_ne, ne_eq, Bool.not_eq_true', Bool.not_eq_false', Int.not_le, Int.not_lt, bne_eq_false_iff_eq, Bool.or_eq_true, Bool.and_eq_true, Bool.or_eq_false_iff] at hc)))
        have hy0 : LogAt wh wh.heap.size av.es av.m.ents := by rw [HAV.out.2.2.2.1, HAV.out.2.2.2.2]; exact LogAt.nil
        have ha := H15.out.1.alloc H15.out.1.size (.cells (mailv av).toArray 43)
        have hml := mails_lit wh av hy0
        have hrr := H9.out.2.2.1.keep ha
        have HF := Lib.hid (And.intro ha (And.intro hml (And.intro hrr (H15.out.2.1.alloc (.cells (mailv av).toArray 43)))))
        clear hy0 ha hml hrr
        unfold mailv at HF
        apply SeqP.eff
        · rfl
        intro KE hKE
        simp only [mailv]
        go_wp2_with fail
        refine hKE _ _ (hTP' _ ⟨HF.out.1, HF.out.2.2.2⟩) ?_
        clear hKE KE
        go_wp2_with (first
          | (apply SeqP.skip; rfl; simp only [Act.put, List.setIfInBounds_toArray, List.set_cons_zero, List.set_cons_succ])
          | (apply SeqP.call; rfl; rfl; (intro w2 hw; have hw := hTP _ hw; ((obtain ⟨q2, q8⟩ := FB2 _ hw.1)); go_simp; exact ⟨rfl, rfl⟩); (intro w2 hw; have hw := hTP _ hw; ((obtain ⟨q2, q8⟩ := FB2 _ hw.1)); (first | fail)); simp only [Act.put, List.setIfInBounds_toArray, List.set_cons_zero, List.set_cons_succ])
          | (apply SeqP.pure; rfl; (intro w2 hw; have hw := hTP _ hw; ((obtain ⟨q2, q8⟩ := FB2 _ hw.1)); go_simp; with_reducible rfl); simp only [Act.put, List.setIfInBounds_toArray, List.set_cons_zero, List.set_cons_succ])
          | (apply SeqP.split; rfl; rfl; all_goals (intro hc; simp only [hc]; try simp only [beq_iff_eq, decide_eq_true_eq, beq_eq_false_iff_ne, decide_eq_false_iff_not, bne_iff_ne, ne_eq, Bool.not_eq_true', Bool.not_eq_false', Int.not_le, Int.not_lt, bne_eq_false_iff_eq, Bool.or_eq_true, Bool.and_eq_true, Bool.or_eq_false_iff] at hc)))
        apply SeqP.nil
        refine hKP _ _ (hTP' _ ⟨HF.out.1, HF.out.2.2.2⟩) ?_
        clear hKP hTP hTP'
        go_wp2_with fail
        go_ret2
        rw [HS.out]
        exact ⟨⟨_, _, _, 1, (([] : List RecV) ++ [recCn x.m mn]), [av], rfl, HF.out.2.2.1, HF.out.2.1, HXS.out.1, by rw [← HAV.out.1]; rfl, HXS.out.2, fun z hz => by rw [List.mem_singleton.1 hz]; exact ⟨HAV.out.2.1, HAV.out.2.2.1⟩⟩, by show RB _ rb gr (bookE 1 E U x.m.stream x.m.epoch) (bookU 1 E U x.m.stream x.m.epoch now); unfold bookE bookU; rw [if_pos rfl, if_pos rfl]; exact Blk.keep H9.out.2.2.2.1 HF.out.1, H9.out.2.2.2.2.trans (Kept.ofBelow HF.out.1 _ _)⟩
      case neg =>
        have hcc : comS r x.m = [] := by
          unfold comS
          rw [HMN.out, if_neg hp]
        have HY := Lib.hid (And.intro HD.out (And.intro (show (([] : List RecV)).map RecV.s = (([] : List RecV)).map RecV.s ++ comS r x.m from by rw [hcc, List.append_nil]) HQ.out.2.1))
        clear hcc HD
        go_wp2_with ((with_reducible refine at_list ?_); (with_reducible refine cut_at 148 rfl ?_))
        refine Cut.go ?_
        clear f3 c3 hp
        obtain ⟨wy, rfl⟩ : ∃ wy, wy = wz := ⟨_, rfl⟩
        have f3 : wy.cell? ⟨w.heap.size + 1, 3, none⟩ = some (.int .i64 x.m.stream) := HY.out.1.2.1.cell 3
        have f4 : wy.cell? ⟨w.heap.size + 1, 4, none⟩ = some (.int .i64 x.m.epoch) := HY.out.1.2.1.cell 4
        have HS := Lib.hid (HL2.out _ _ HQ.out.1)
        have hokE : ∀ z ∈ (layS r x.m).recs, OkE z.ents := by
          rw [HS.out]
          intro z hz
          rcases List.mem_append.1 hz with h | h
          · exact grown_ok HQ.out.1 z h
          · exact com_ok z h
        have HO := Lib.hid hokE
        clear hokE
        go_wp2_with fail
        refine (rgrant_any rb gr E U x.m.stream x.m.epoch now (by have := HK.out.2.1; omega) wy HY.out.1.2.2.2.2.1).mono ?_
        rintro e w9 ⟨rfl, hR9, hg9⟩
        have hne : ∀ m, m ≠ rb → some m ≠ some rb := fun m h e => h (Option.some.inj e)
        have hrb : rb < w.heap.size := Blk.lt HB.out.1
        have hM9 := HY.out.1.2.1.grown hg9 (hne _ (by omega))
        have hQ9 := HY.out.1.2.2.2.1.grown hg9 (hne _ (by have := HY.out.1.2.2.2.2.2; omega))
        have hX9 := (HY.out.1.2.2.1.rcs).rb HY.out.1.2.2.2.2.1 hg9 (fun y hy => by
          obtain ⟨v, hv⟩ := HO.out y.s (by rw [HS.out]; show y.s ∈ _; rw [← HY.out.2.1]; exact List.mem_map_of_mem hy)
          exact (HY.out.1.2.2.1.rcs.2 y hy).rb hv HY.out.1.2.2.2.2.1 HB.out.2.1 hg9)
        have hK9 : Kept w w9 (some rb) none := (Kept.ofBelow HY.out.1.1 _ _).trans (Kept.ofGrown hg9)
        have HXS := Lib.hid HY.out.2
        have H9 := Lib.hid (And.intro hM9 (And.intro hQ9 (And.intro hX9 (And.intro hR9 hK9))))
        clear hM9 hQ9 hX9 hR9 hg9 hK9 HY f3 f4 hne hrb HO
        have f4 : w9.cell? ⟨w.heap.size + 1, 4, none⟩ = some (.int .i64 x.m.epoch) := H9.out.1.cell 4
        go_wp2_with ((with_reducible refine at_list ?_); first | refine wpList_load_blk rfl 43 _ rfl _ rfl _ _ _ (H9.out.1) Try.underlying43 rfl mail_info ?_)
        refine (rback_any x 5 x.m.epoch w9).mono ?_
        rintro e w10 ⟨rfl, hb10⟩
        have H10 := Lib.hid hb10
        clear hb10 f4
        go_wp2_with ((with_reducible refine at_list ?_); first | (refine wpList_store_own rfl 43 _ _ rfl _ (mailv (backV x.m 5 x.m.epoch)) rfl rfl _ _ (Blk.new w10 43 (mailv backV0)) mail_info rfl (mail_one _) ?_; intro w11 B11 g11))
        have hb11 := below_new g11
        have h11 : PrS w9 w10.heap.size 43 (mailv (backV x.m 5 x.m.epoch)) (none, 0, 0) [] w11.drew := PrS.keep ⟨below_trans H10.out hb11 H10.out.size, B11, LogAt.nil, H10.out.size, by simp⟩ (Below.refl _ _).drew
        have H11 := Lib.hid h11
        clear hb11 B11 g11 h11 H10
        have FB2 : ∀ W, Below w9.heap.size w9 W → W.cell? ⟨g13, 2, none⟩ = some (.slice sl.1 r.log.length sl.2.2) ∧ W.cell? ⟨w.heap.size + 1, 8, none⟩ = some (.int .i64 x.m.stamp) := fun W h => ⟨by rw [← HQ.out.2.2]; exact (H9.out.2.1.keep h).cell 2, (H9.out.1.keep h).cell 8⟩
        refine wp_region_p ([(0, true), (1, true), (2, true), (3, true), (4, true), (5, true), (6, false), (7, true), (8, false)]) (fun w' => Below w9.heap.size w9 w') (by kernel_rfl) rfl (by kernel_rfl) (by kernel_rfl) (H11.out.1) rfl ?_
        intro KP RP TP hKP hTP hTP'
        simp only [List.append_eq, List.cons_append, List.nil_append, pick, nth]
        generalize w11.drew = we at *
        generalize w10.heap.size = g at *
        go_wp2_with (first
          | (apply SeqP.skip; rfl; simp only [Act.put, List.setIfInBounds_toArray, List.set_cons_zero, List.set_cons_succ])
          | (apply SeqP.call; rfl; rfl; (intro w2 hw; have hw := hTP _ hw; ((obtain ⟨q2, q8⟩ := FB2 _ hw)); go_simp; exact ⟨rfl, rfl⟩); (intro w2 hw; have hw := hTP _ hw; ((obtain ⟨q2, q8⟩ := FB2 _ hw)); (first | fail)); simp only [Act.put, List.setIfInBounds_toArray, List.set_cons_zero, List.set_cons_succ])
          | (apply SeqP.pure; rfl; (intro w2 hw; have hw := hTP _ hw; ((obtain ⟨q2, q8⟩ := FB2 _ hw)); go_simp; with_reducible rfl); simp only [Act.put, List.setIfInBounds_toArray, List.set_cons_zero, List.set_cons_succ])
          | (apply SeqP.split; rfl; rfl; all_goals (intro hc; simp only [hc]; try simp only [beq_iff_eq, decide_eq_true_eq, beq_eq_false_iff_ne, decide_eq_false_iff_not, bne_iff_ne, ne_eq, Bool.not_eq_true', Bool.not_eq_false', Int.not_le, Int.not_lt, bne_eq_false_iff_eq, Bool.or_eq_true, Bool.and_eq_true, Bool.or_eq_false_iff] at hc)))
        have h12 := H11.out.set 7 (.int .i64 (r.log.length : Int))
        have h13 := h12.set 8 (.int .i64 x.m.stamp)
        have HP2 := Lib.hid (And.intro h12 h13)
        have c7 : we.cell? ⟨g, 7, none⟩ = some (.int .i64 0) := H11.out.2.1.cell 7
        have z7 : we.frozen? ⟨g, 7, none⟩ = false := H11.out.2.1.frozen 7
        have c8 : we.cell? ⟨g, 8, none⟩ = some (.int .i64 0) := H11.out.2.1.cell 8
        have z8 : we.frozen? ⟨g, 8, none⟩ = false := H11.out.2.1.frozen 8
        clear h12 h13 H11
        apply SeqP.eff
        · rfl
        intro KE hKE
        go_wp2_with fail
        refine hKE _ _ (hTP' _ HP2.out.1.1) ?_
        clear hKE KE
        go_wp2_with (first
          | (apply SeqP.skip; rfl; simp only [Act.put, List.setIfInBounds_toArray, List.set_cons_zero, List.set_cons_succ])
          | (apply SeqP.call; rfl; rfl; (intro w2 hw; have hw := hTP _ hw; (skip); go_simp; exact ⟨rfl, rfl⟩); (intro w2 hw; have hw := hTP _ hw; (skip); (first | fail)); simp only [Act.put, List.setIfInBounds_toArray, List.set_cons_zero, List.set_cons_succ])
          | (apply SeqP.pure; rfl; (intro w2 hw; have hw := hTP _ hw; (skip); go_simp; with_reducible rfl); simp only [Act.put, List.setIfInBounds_toArray, List.set_cons_zero, List.set_cons_succ])
          | (apply SeqP.split; rfl; rfl; all_goals (intro hc; simp only [hc]; try simp only [beq_iff_eq, decide_eq_true_eq, beq_eq_false_iff_ne, decide_eq_false_iff_not, bne_iff_ne, ne_eq, Bool.not_eq_true', Bool.not_eq_false', Int.not_le, Int.not_lt, bne_eq_false_iff_eq, Bool.or_eq_true, Bool.and_eq_true, Bool.or_eq_false_iff] at hc)))
        apply SeqP.eff
        · rfl
        intro KE hKE
        go_wp2_with fail
        refine hKE _ _ (hTP' _ HP2.out.2.1) ?_
        clear hKE KE
        go_wp2_with (first
          | (apply SeqP.skip; rfl; simp only [Act.put, List.setIfInBounds_toArray, List.set_cons_zero, List.set_cons_succ])
          | (apply SeqP.call; rfl; rfl; (intro w2 hw; have hw := hTP _ hw; (skip); go_simp; exact ⟨rfl, rfl⟩); (intro w2 hw; have hw := hTP _ hw; (skip); (first | fail)); simp only [Act.put, List.setIfInBounds_toArray, List.set_cons_zero, List.set_cons_succ])
          | (apply SeqP.pure; rfl; (intro w2 hw; have hw := hTP _ hw; (skip); go_simp; with_reducible rfl); simp only [Act.put, List.setIfInBounds_toArray, List.set_cons_zero, List.set_cons_succ])
          | (apply SeqP.split; rfl; rfl; all_goals (intro hc; simp only [hc]; try simp only [beq_iff_eq, decide_eq_true_eq, beq_eq_false_iff_ne, decide_eq_false_iff_not, bne_iff_ne, ne_eq, Bool.not_eq_true', Bool.not_eq_false', Int.not_le, Int.not_lt, bne_eq_false_iff_eq, Bool.or_eq_true, Bool.and_eq_true, Bool.or_eq_false_iff] at hc)))
        apply SeqP.nil
        refine hKP _ _ (hTP' _ (HP2.out.2.1)) ?_
        clear hKP hTP hTP'
        have hcs : ((mailv (backV x.m 5 x.m.epoch)).set 7 (.int .i64 (r.log.length : Int))).set 8 (.int .i64 x.m.stamp) = mailv (ackV r x.m) := rfl
        have h14 := HP2.out.2
        rw [hcs] at h14
        obtain ⟨av, hav⟩ : ∃ av, ackV r x.m = av := ⟨_, rfl⟩
        have HAV := Lib.hid (show av.m = ackM r x.m ∧ av.o = (0, 0, 0, 0, 0) ∧ av.an = (0, 0, 0) ∧ av.es = (none, 0, 0) ∧ av.m.ents = [] from by rw [← hav]; exact ⟨rfl, rfl, rfl, rfl, rfl⟩)
        rw [hav] at h14
        clear HP2 hcs c7 z7 c8 z8 hav
        generalize ((we.setCell ⟨g, 7, none⟩ (.int .i64 (r.log.length : Int))).setCell ⟨g, 8, none⟩ (.int .i64 x.m.stamp)) = wf at h14 ⊢
        have H15 := Lib.hid (h14.keep (Below.refl _ _).drew)
        clear h14
        go_wp2_with fail
        refine wp_region_p ([(0, true), (1, true), (3, true), (2, false), (4, true)]) (fun w' => Below w9.heap.size w9 w' ∧ Blk w' g 43 (mailv av)) (by kernel_rfl) rfl (by kernel_rfl) (by kernel_rfl) (⟨H15.out.1, H15.out.2.1⟩) rfl ?_
        intro KP RP TP hKP hTP hTP'
        simp only [List.append_eq, List.cons_append, List.nil_append, pick, nth]
        generalize wf.drew = wh at *
        go_wp2_with (first
          | (apply SeqP.skip; rfl; simp only [Act.put, List.setIfInBounds_toArray, List.set_cons_zero, List.set_cons_succ])
          | (apply SeqP.pure; rfl; (intro w2 hw; have hw := hTP _ hw; exact exec_load_blk 43 _ rfl _ rfl _ _ (hw.2) _ Try.underlying43 rfl mail_info); simp only [Act.put, List.setIfInBounds_toArray, List.set_cons_zero, List.set_cons_succ])
          | (apply SeqP.call; rfl; rfl; (intro w2 hw; have hw := hTP _ hw; ((obtain ⟨q2, q8⟩ := FB2 _ hw.1)); go_simp; exact ⟨rfl, rfl⟩); (intro w2 hw; have hw := hTP _ hw; ((obtain ⟨q2, q8⟩ := FB2 _ hw.1)); (first | fail)); simp only [Act.put, List.setIfInBounds_toArray, List.set_cons_zero, List.set_cons_succ])
          | (apply SeqP.pure; rfl; (intro w2 hw; have hw := hTP _ hw; ((obtain ⟨q2, q8⟩ := FB2 _ hw.1)); go_simp; with_reducible rfl); simp only [Act.put, List.setIfInBounds_toArray, List.set_cons_zero, List.set_cons_succ])
          | (apply SeqP.split; rfl; rfl; all_goals (intro hc; simp only [hc]; try simp only [beq_iff_eq, decide_eq_true_eq, beq_eq_false_iff_ne, decide_eq_false_iff_not, bne_iff_ne, ne_eq, Bool.not_eq_true', Bool.not_eq_false', Int.not_le, Int.not_lt, bne_eq_false_iff_eq, Bool.or_eq_true, Bool.and_eq_true, Bool.or_eq_false_iff] at hc)))
        have hy0 : LogAt wh wh.heap.size av.es av.m.ents := by rw [HAV.out.2.2.2.1, HAV.out.2.2.2.2]; exact LogAt.nil
        have ha := H15.out.1.alloc H15.out.1.size (.cells (mailv av).toArray 43)
        have hml := mails_lit wh av hy0
        have hrr := H9.out.2.2.1.keep ha
        have HF := Lib.hid (And.intro ha (And.intro hml (And.intro hrr (H15.out.2.1.alloc (.cells (mailv av).toArray 43)))))
        clear hy0 ha hml hrr
        unfold mailv at HF
        apply SeqP.eff
        · rfl
        intro KE hKE
        simp only [mailv]
        go_wp2_with fail
        refine hKE _ _ (hTP' _ ⟨HF.out.1, HF.out.2.2.2⟩) ?_
        clear hKE KE
        go_wp2_with (first
          | (apply SeqP.skip; rfl; simp only [Act.put, List.setIfInBounds_toArray, List.set_cons_zero, List.set_cons_succ])
          | (apply SeqP.call; rfl; rfl; (intro w2 hw; have hw := hTP _ hw; ((obtain ⟨q2, q8⟩ := FB2 _ hw.1)); go_simp; exact ⟨rfl, rfl⟩); (intro w2 hw; have hw := hTP _ hw; ((obtain ⟨q2, q8⟩ := FB2 _ hw.1)); (first | fail)); simp only [Act.put, List.setIfInBounds_toArray, List.set_cons_zero, List.set_cons_succ])
          | (apply SeqP.pure; rfl; (intro w2 hw; have hw := hTP _ hw; ((obtain ⟨q2, q8⟩ := FB2 _ hw.1)); go_simp; with_reducible rfl); simp only [Act.put, List.setIfInBounds_toArray, List.set_cons_zero, List.set_cons_succ])
          | (apply SeqP.split; rfl; rfl; all_goals (intro hc; simp only [hc]; try simp only [beq_iff_eq, decide_eq_true_eq, beq_eq_false_iff_ne, decide_eq_false_iff_not, bne_iff_ne, ne_eq, Bool.not_eq_true', Bool.not_eq_false', Int.not_le, Int.not_lt, bne_eq_false_iff_eq, Bool.or_eq_true, Bool.and_eq_true, Bool.or_eq_false_iff] at hc)))
        apply SeqP.nil
        refine hKP _ _ (hTP' _ ⟨HF.out.1, HF.out.2.2.2⟩) ?_
        clear hKP hTP hTP'
        go_wp2_with fail
        go_ret2
        rw [HS.out]
        exact ⟨⟨_, _, _, 1, (([] : List RecV)), [av], rfl, HF.out.2.2.1, HF.out.2.1, HXS.out.1, by rw [← HAV.out.1]; rfl, HXS.out.2, fun z hz => by rw [List.mem_singleton.1 hz]; exact ⟨HAV.out.2.1, HAV.out.2.2.1⟩⟩, by show RB _ rb gr (bookE 1 E U x.m.stream x.m.epoch) (bookU 1 E U x.m.stream x.m.epoch now); unfold bookE bookU; rw [if_pos rfl, if_pos rfl]; exact Blk.keep H9.out.2.2.2.1 HF.out.1, H9.out.2.2.2.2.trans (Kept.ofBelow HF.out.1 _ _)⟩
  case neg => exact absurd (HJ.out.1 ▸ HP0.out) hp1
end Go.Proofs.Ytdphfhenjndkkaa
