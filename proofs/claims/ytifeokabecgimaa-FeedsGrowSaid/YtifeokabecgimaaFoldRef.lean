/-
  The walk over the document's Of.
-/
import Derived.Test.YtifeokabecgimaaFoldDec
import Derived.Test.YtifeokabecgimaaFoldFind
import Derived.Test.YtifeokabecgimaaApplyAny
import Derived.Test.YtifeokabecgimaaRef12A
import Derived.Test.YtifeokabecgimaaSeqZ
import Derived.Deep.LoopGhost
set_option linter.unusedSimpArgs false
set_option linter.unusedVariables false
set_option maxRecDepth 100000
namespace Go.Proofs.Ytifeokabecgimaa
open Go Go.RowKit Go.Sq Go.Wd Go.Arch

theorem rfind_pre (l : List Ent) (A : Option Addr) (c j : Nat) (a : Int) (w : World) (ha : Ents w w.heap.size A l) (hl : l.length ≤ 9223372036854775807) (hj : j ≤ l.length) :
    Calls Try.prog 21 #[.slice A j c, .int .i64 a] w fun e w' => e = .returned (.tuple #[.int .i64 (whereK (firstIn l j a)), .bool (firstIn l j a).isSome]) ∧ Below w.heap.size w w' := by
  have h := rfind_any (l.take j) A c a w (ha.take j) (by rw [List.length_take]; omega)
  rw [List.length_take, Nat.min_eq_left hj, first_take l a j j (Nat.le_refl _)] at h
  exact h

/-- What a round of the document's Of holds on to. -/
def RI (w0 w : World) (v : Value) (s : St) (outs : List OutS) : Prop :=
  Below w0.heap.size w0 w ∧ Blk w w0.heap.size 25 (stv ⟨0, false, 0, 0⟩) ∧ Blk w (w0.heap.size + 1) 25 (stv s) ∧ Outs w (w0.heap.size + 2) v outs ∧ w0.heap.size + 2 ≤ w.heap.size

theorem RI.app {w0 W w' : World} {v v' : Value} {s : St} {outs outs' : List OutS} (h : RI w0 W v s outs) (hg : W.grownBy w' v.ownBlock) (hO' : Outs w' (w0.heap.size + 2) v' outs') : RI w0 w' v' s outs' := by
  obtain ⟨hB, hR, hS, hO, hz⟩ := h
  have hlt : ∀ g, v.ownBlock = some g → w0.heap.size + 2 ≤ g := by
    obtain ⟨ps, _, h2, _⟩ := hO
    exact fun g hv => (h2.lt g hv).1
  have hne : ∀ b, b < w0.heap.size + 2 → some b ≠ v.ownBlock := fun b hb e => by have := hlt b e.symm; omega
  have hsz : W.heap.size ≤ w'.heap.size := hg.size
  exact ⟨⟨hg.os.trans hB.os, hg.tape.trans hB.tape, hg.output.trans hB.output, by omega, fun k hk => (hg.block k (by omega) (hne k (by omega))).trans (hB.block k hk)⟩,
    hR.grown hg (hne _ (by omega)), hS.grown hg (hne _ (by omega)), hO', by omega⟩
theorem RI.keep {w0 W w' : World} {v : Value} {s : St} {outs : List OutS} (h : RI w0 W v s outs) (hb : Below W.heap.size W w') : RI w0 w' v s outs :=
  ⟨below_trans h.1 hb h.1.size, h.2.1.keep hb, h.2.2.1.keep hb, h.2.2.2.1.pure hb, Nat.le_trans h.2.2.2.2 hb.size⟩

theorem RI.drew {w0 W : World} {v : Value} {s : St} {outs : List OutS} (h : RI w0 W v s outs) : RI w0 W.drew v s outs :=
  ⟨h.1.drew, h.2.1.drew, h.2.2.1.drew, h.2.2.2.1.pure (Below.refl _ _).drew, h.2.2.2.2⟩

set_option maxHeartbeats 4000000 in
theorem rof_any (l : List Ent) (A : Option Addr) (c : Nat) (w : World) (ha : Ents w w.heap.size A l) (hl : l.length ≤ 2000) (hc : l.length ≤ c) (hc2 : c ≤ 9223372036854775807) :
    Calls Try.prog 16 #[.slice A l.length c] w fun e w' => ∃ v, e = .returned (.tuple #[.agg (stv (foldS l).1).toArray, v]) ∧ Outs w' (w.heap.size + 2) v (foldS l).2 ∧ Below w.heap.size w w' := by
  have H := Lib.hid ha
  clear ha
  have hI0 : RI w ((w.alloc (.cells #[.int .i64 0, .bool false, .int .i64 0, .int .i64 0] 25)).alloc (.cells #[.int .i64 0, .bool false, .int .i64 0, .int .i64 0] 25)) (.slice none 0 0) ⟨0, false, 0, 0⟩ [] := by
    have hw := Below.refl w.heap.size w
    exact ⟨by (repeat (first | with_reducible apply Below.drew | with_reducible refine Below.setCell ?_ (by first | exact Nat.le_refl _ | (simp; done) | (simp; omega) | omega) _ | with_reducible refine Below.alloc ?_ (by first | exact Nat.le_refl _ | (simp; done) | (simp; omega) | omega) _ | with_reducible exact Below.refl _ _ | with_reducible assumption)), (Blk.new w _ (stv ⟨0, false, 0, 0⟩)).alloc _, Blk.new1 w _ _ (stv ⟨0, false, 0, 0⟩), Outs.nil _ _, by simp⟩
  go_enter Try.func16, Try.ntmps16
  go_wp2_with fail
  go_loopg [5, 6] l.length (fun q v i wr => ∃ j : Nat, q = l.length - j ∧ j ≤ l.length ∧ i = .int .i64 j ∧ RI w wr v (foldTo l j).1 (foldTo l j).2)
  case atStart => exact ⟨0, rfl, by omega, rfl, hI0⟩
  case round =>
    clear hI0
    obtain ⟨j, hk, hj, rfl, hI⟩ := hrel
    have AA : Aside (gk = l.length - j) := hk
    clear hk
    by_cases hlt : j < l.length
    · obtain ⟨b1, o1, x, rfl, hx, FA⟩ := H.out.at_ hlt
      have hjc : j ≤ c := by omega
      have hlen := fold_len l j (by omega)
      go_wp2_with fail
      refine wp_region_p ([(0, true), (1, true), (2, true), (3, true), (4, true), (5, true), (6, true), (7, true), (8, true), (9, false), (10, true), (11, true), (12, true), (13, true), (14, true)]) (fun w' => Below w.heap.size w w') (by kernel_rfl) rfl (by kernel_rfl) (by kernel_rfl) (hI.1.drew) rfl ?_
      intro KP RP TP hKP hTP hTP'
      simp only [pick, nth]
      go_wp2_with (first
        | (apply SeqP.skip; rfl; simp only [Act.put, List.setIfInBounds_toArray, List.set_cons_zero, List.set_cons_succ])
        | (apply SeqP.call; rfl; rfl; (intro w2 hw; have hw := hTP _ hw; (obtain ⟨q0, q1, q2, q3, q4, q5⟩ := FA _ hw); go_simp; exact ⟨rfl, rfl⟩); (intro w2 hw; have hw := hTP _ hw; (obtain ⟨q0, q1, q2, q3, q4, q5⟩ := FA _ hw); (first | fail)); simp only [Act.put, List.setIfInBounds_toArray, List.set_cons_zero, List.set_cons_succ])
        | (apply SeqP.pure; rfl; (intro w2 hw; have hw := hTP _ hw; (obtain ⟨q0, q1, q2, q3, q4, q5⟩ := FA _ hw); go_simp; with_reducible rfl); simp only [Act.put, List.setIfInBounds_toArray, List.set_cons_zero, List.set_cons_succ])
        | (apply SeqP.split; rfl; rfl; all_goals (intro hc; simp only [hc]; try simp only [beq_iff_eq, decide_eq_true_eq, beq_eq_false_iff_ne, decide_eq_false_iff_not, bne_iff_ne, ne_eq, Bool.not_eq_true', Bool.not_eq_false', Int.not_le, Int.not_lt, bne_eq_false_iff_eq, Bool.or_eq_true, Bool.and_eq_true, Bool.or_eq_false_iff] at hc)))
      apply SeqP.eff
      · rfl
      intro KE hKE
      go_wp2_with fail
      refine (rfind_pre l _ c j x.2.1 _ ((H.out.below hI.1.drew).more hI.1.size) (by omega) hj).mono ?_
      rintro e w1 ⟨rfl, hb⟩
      have hI1 := hI.keep (w' := w1) ⟨hb.os, hb.tape, hb.output, hb.size, hb.block⟩
      refine hKE _ _ (hTP' _ hI1.1) ?_
      clear hKE KE hI hb
      cases hf : firstIn l j x.2.1 with
      | some k =>
        have hkj := first_lt l j _ k hf
        simp only [whereK, Option.isSome_some]
        go_wp2_with (first
          | (apply SeqP.skip; rfl; simp only [Act.put, List.setIfInBounds_toArray, List.set_cons_zero, List.set_cons_succ])
          | (apply SeqP.call; rfl; rfl; (intro w2 hw; have hw := hTP _ hw; (skip); go_simp; exact ⟨rfl, rfl⟩); (intro w2 hw; have hw := hTP _ hw; (skip); (first | fail)); simp only [Act.put, List.setIfInBounds_toArray, List.set_cons_zero, List.set_cons_succ])
          | (apply SeqP.pure; rfl; (intro w2 hw; have hw := hTP _ hw; (skip); go_simp; with_reducible rfl); simp only [Act.put, List.setIfInBounds_toArray, List.set_cons_zero, List.set_cons_succ])
          | (apply SeqP.split; rfl; rfl; all_goals (intro hc; simp only [hc]; try simp only [beq_iff_eq, decide_eq_true_eq, beq_eq_false_iff_ne, decide_eq_false_iff_not, bne_iff_ne, ne_eq, Bool.not_eq_true', Bool.not_eq_false', Int.not_le, Int.not_lt, bne_eq_false_iff_eq, Bool.or_eq_true, Bool.and_eq_true, Bool.or_eq_false_iff] at hc)))
        apply SeqP.nil
        refine hKP _ _ (hTP' _ (hI1.1)) ?_
        clear hKP hTP hTP'
        have HS := Lib.hid (And.intro (fold_dup hx.out hf) (And.intro hf hlen))
        have hlt2 : k < (foldTo l j).2.length := by omega
        clear hf hlen
        obtain ⟨g, cap, o, sl, hv, ho, hgB, hglt, hcap1, hcap2, hev, d0, d1, d2⟩ := hI1.2.2.2.1.read hlt2
        rw [HS.out.2.2] at hcap1 hv
        subst hv
        obtain ⟨v', w', hrun, hO3, hg3, hold⟩ := Outs.snoc (W := w1.drew) hI1.2.2.2.1 (o.1, o.2.1, []) (none, 0, 0) (.inl ⟨rfl, rfl⟩) (by rw [HS.out.2.2]; omega) hI1.2.2.2.2 (H := w1.heap.size) rfl 26
        have e0 := hold g cap (k * 3) _ (by rw [HS.out.2.2]) (by omega) d0
        have e1 := hold g cap (k * 3 + 1) _ (by rw [HS.out.2.2]) (by omega) d1
        clear hold
        have hcap3 : cap ≤ 9223372036854775807 := by simp only [maxLen] at hcap2; omega
        clear hcap2
        go_wp2_with fail
        refine wp_region_p ([(0, true), (1, true), (2, true), (3, true), (4, true), (5, true), (6, true), (7, true), (8, true), (9, true), (10, true), (11, true), (12, false), (13, false), (14, true)]) (fun w' => w'.cell? ⟨g, k * 3, none⟩ = some (.int .i64 o.1) ∧ w'.cell? ⟨g, k * 3 + 1, none⟩ = some (.int .i64 o.2.1)) (by kernel_rfl) rfl (by kernel_rfl) (by kernel_rfl) (⟨d0, d1⟩) rfl ?_
        intro KP RP TP hKP hTP hTP'
        simp only [pick, nth]
        go_wp2_with (first
          | (apply SeqP.skip; rfl; simp only [Act.put, List.setIfInBounds_toArray, List.set_cons_zero, List.set_cons_succ])
          | (apply SeqP.call; rfl; rfl; (intro w2 hw; have hw := hTP _ hw; (obtain ⟨q0, q1⟩ := hw); go_simp; exact ⟨rfl, rfl⟩); (intro w2 hw; have hw := hTP _ hw; (obtain ⟨q0, q1⟩ := hw); (first | fail)); simp only [Act.put, List.setIfInBounds_toArray, List.set_cons_zero, List.set_cons_succ])
          | (apply SeqP.pure; rfl; (intro w2 hw; have hw := hTP _ hw; (obtain ⟨q0, q1⟩ := hw); go_simp; with_reducible rfl); simp only [Act.put, List.setIfInBounds_toArray, List.set_cons_zero, List.set_cons_succ])
          | (apply SeqP.split; rfl; rfl; all_goals (intro hc; simp only [hc]; try simp only [beq_iff_eq, decide_eq_true_eq, beq_eq_false_iff_ne, decide_eq_false_iff_not, bne_iff_ne, ne_eq, Bool.not_eq_true', Bool.not_eq_false', Int.not_le, Int.not_lt, bne_eq_false_iff_eq, Bool.or_eq_true, Bool.and_eq_true, Bool.or_eq_false_iff] at hc)))
        apply SeqP.eff
        · rfl
        intro KE hKE
        go_wp2_with fail
        refine hKE _ _ (hTP' _ (by simp only [World.drew]; exact ⟨(World.cell?_alloc_lt _ _ _ (by simpa using hglt)).trans d0, (World.cell?_alloc_lt _ _ _ (by simpa using hglt)).trans d1⟩)) ?_
        clear hKE KE
        apply SeqP.eff
        · rfl
        intro KE hKE
        refine oper_app (by rfl) (by rfl) (by rfl) hrun ?_
        refine hKE _ _ (hTP' _ ⟨e0, e1⟩) ?_
        clear hKE KE
        go_wp2_with (first
          | (apply SeqP.skip; rfl; simp only [Act.put, List.setIfInBounds_toArray, List.set_cons_zero, List.set_cons_succ])
          | (apply SeqP.call; rfl; rfl; (intro w2 hw; have hw := hTP _ hw; (obtain ⟨q0, q1⟩ := hw); go_simp; exact ⟨rfl, rfl⟩); (intro w2 hw; have hw := hTP _ hw; (obtain ⟨q0, q1⟩ := hw); (first | fail)); simp only [Act.put, List.setIfInBounds_toArray, List.set_cons_zero, List.set_cons_succ])
          | (apply SeqP.pure; rfl; (intro w2 hw; have hw := hTP _ hw; (obtain ⟨q0, q1⟩ := hw); go_simp; with_reducible rfl); simp only [Act.put, List.setIfInBounds_toArray, List.set_cons_zero, List.set_cons_succ])
          | (apply SeqP.split; rfl; rfl; all_goals (intro hc; simp only [hc]; try simp only [beq_iff_eq, decide_eq_true_eq, beq_eq_false_iff_ne, decide_eq_false_iff_not, bne_iff_ne, ne_eq, Bool.not_eq_true', Bool.not_eq_false', Int.not_le, Int.not_lt, bne_eq_false_iff_eq, Bool.or_eq_true, Bool.and_eq_true, Bool.or_eq_false_iff] at hc)))
        apply SeqP.nil
        refine hKP _ _ (hTP' _ (⟨e0, e1⟩)) ?_
        clear hKP hTP hTP'
        clear hrun e0 e1 d0 d1 d2
        go_wp2_with fail
        go_roundg (l.length - (j + 1))
        case measure => have hkk := AA.out; omega
        case rel =>
          refine ⟨j + 1, rfl, by omega, by go_num, ?_⟩
          rw [HS.out.1]
          have hd : dupOf (foldTo l j).2 k = (o.1, o.2.1, []) := by unfold dupOf; rw [ho]
          rw [hd]
          exact hI1.drew.app hg3 hO3
      | none =>
        simp only [whereK, Option.isSome_none]
        go_wp2_with (first
          | (apply SeqP.skip; rfl; simp only [Act.put, List.setIfInBounds_toArray, List.set_cons_zero, List.set_cons_succ])
          | (apply SeqP.call; rfl; rfl; (intro w2 hw; have hw := hTP _ hw; (skip); go_simp; exact ⟨rfl, rfl⟩); (intro w2 hw; have hw := hTP _ hw; (skip); (first | fail)); simp only [Act.put, List.setIfInBounds_toArray, List.set_cons_zero, List.set_cons_succ])
          | (apply SeqP.pure; rfl; (intro w2 hw; have hw := hTP _ hw; (skip); go_simp; with_reducible rfl); simp only [Act.put, List.setIfInBounds_toArray, List.set_cons_zero, List.set_cons_succ])
          | (apply SeqP.split; rfl; rfl; all_goals (intro hc; simp only [hc]; try simp only [beq_iff_eq, decide_eq_true_eq, beq_eq_false_iff_ne, decide_eq_false_iff_not, bne_iff_ne, ne_eq, Bool.not_eq_true', Bool.not_eq_false', Int.not_le, Int.not_lt, bne_eq_false_iff_eq, Bool.or_eq_true, Bool.and_eq_true, Bool.or_eq_false_iff] at hc)))
        apply SeqP.nil
        refine hKP _ _ (hTP' _ (hI1.1)) ?_
        clear hKP hTP hTP'
        have HS := Lib.hid (And.intro (fold_new hx.out hf) (And.intro hf hlen))
        clear hf hlen
        go_wp2_with fail
        refine wp_region_p2 [(0, true), (1, true), (2, true), (3, true), (4, true), (5, true)] [(6, false), (7, false), (8, false)] [(7, false), (6, false), (8, false)] (fun w' => Below w.heap.size w w' ∧ Blk w' (w.heap.size + 1) 25 (stv (foldTo l j).1)) (by kernel_rfl) (by kernel_rfl) (by kernel_rfl) ⟨hI1.1.drew, hI1.2.2.1.drew⟩ rfl ?_
        intro KP RP TP hKP hTP hTP'
        simp only [pick, nth]
        go_wp2_with (first
          | (apply SeqP.skip; rfl; simp only [Act.put, List.setIfInBounds_toArray, List.set_cons_zero, List.set_cons_succ])
          | (apply SeqP.call; rfl; rfl; (intro w2 hw; have hw := hTP _ hw; ((obtain ⟨q0, q1, q2, q3, q4, q5⟩ := FA _ hw.1; have s0 := hw.2.cell 0; have s1 := hw.2.cell 1; have s2 := hw.2.cell 2; have s3 := hw.2.cell 3; simp [stv] at s0 s1 s2 s3)); go_simp; exact ⟨rfl, rfl⟩); (intro w2 hw; have hw := hTP _ hw; ((obtain ⟨q0, q1, q2, q3, q4, q5⟩ := FA _ hw.1; have s0 := hw.2.cell 0; have s1 := hw.2.cell 1; have s2 := hw.2.cell 2; have s3 := hw.2.cell 3; simp [stv] at s0 s1 s2 s3)); (first | fail)); simp only [Act.put, List.setIfInBounds_toArray, List.set_cons_zero, List.set_cons_succ])
          | (apply SeqP.pure; rfl; (intro w2 hw; have hw := hTP _ hw; ((obtain ⟨q0, q1, q2, q3, q4, q5⟩ := FA _ hw.1; have s0 := hw.2.cell 0; have s1 := hw.2.cell 1; have s2 := hw.2.cell 2; have s3 := hw.2.cell 3; simp [stv] at s0 s1 s2 s3)); go_simp; with_reducible rfl); simp only [Act.put, List.setIfInBounds_toArray, List.set_cons_zero, List.set_cons_succ])
          | (apply SeqP.split; rfl; rfl; all_goals (intro hc; simp only [hc]; try simp only [beq_iff_eq, decide_eq_true_eq, beq_eq_false_iff_ne, decide_eq_false_iff_not, bne_iff_ne, ne_eq, Bool.not_eq_true', Bool.not_eq_false', Int.not_le, Int.not_lt, bne_eq_false_iff_eq, Bool.or_eq_true, Bool.and_eq_true, Bool.or_eq_false_iff] at hc)))
        apply SeqP.nil
        refine ⟨?_, ?_⟩
        case' refine_1 =>
          apply SeqP.eff
          · rfl
          intro KE hKE
          go_wp2_with fail
          refine (ref_decide_out (foldTo l j).1 (ordOf x) _).mono ?_
          rintro e w2 ⟨sl, rfl, hev, hb⟩
          have hI2 := hI1.drew.keep hb
          refine hKE _ _ (hTP' _ ⟨hI2.1, hI2.2.2.1⟩) ?_
          clear hKE KE
          apply SeqP.eff
          · rfl
          intro KE hKE
          go_wp2_with fail
          refine hKE _ _ (hTP' _ ⟨hI2.1.alloc hI2.1.size _, hI2.2.2.1.alloc _⟩) ?_
          clear hKE KE
          apply SeqP.eff
          · rfl
          intro KE hKE
          go_wp2_with fail
          have hY := Blk.new w2 33 [.int .i64 (decS (foldTo l j).1 (ordOf x)).2.1, .int .i64 (decS (foldTo l j).1 (ordOf x)).2.2.1, .slice sl.1 sl.2.1 sl.2.2]
          have hE0 : EvAt w2 (w.heap.size + 2) (Value.ownBlock _) sl (decS (foldTo l j).1 (ordOf x)).2.2.2 := hev.base hI1.2.2.2.2 hI1.2.2.2.1.own_lt
          have hE := hE0.keep (World.grownBy_alloc w2 (.cells ([.int .i64 (decS (foldTo l j).1 (ordOf x)).2.1, .int .i64 (decS (foldTo l j).1 (ordOf x)).2.2.1, .slice sl.1 sl.2.1 sl.2.2] : List Value).toArray 33) none) (by simp)
          have hI3 := hI2.keep (W := w2) ((Below.refl _ _).alloc (Nat.le_refl _) (.cells ([.int .i64 (decS (foldTo l j).1 (ordOf x)).2.1, .int .i64 (decS (foldTo l j).1 (ordOf x)).2.2.1, .slice sl.1 sl.2.1 sl.2.2] : List Value).toArray 33))
          have hbb : w.heap.size + 2 ≤ w2.heap.size := hI2.2.2.2.2
          refine hKE _ _ (hTP' _ ⟨hI3.1, hI3.2.2.1⟩) ?_
          clear hKE KE
          apply SeqP.nil
          refine hKP _ _ (hTP' _ (⟨hI3.1, hI3.2.2.1⟩)) ?_
          clear hKP hTP hTP'
          refine abs_at (fun W => RI w W _ (foldTo l j).1 (foldTo l j).2 ∧ Blk W w2.heap.size 33 [.int .i64 (decS (foldTo l j).1 (ordOf x)).2.1, .int .i64 (decS (foldTo l j).1 (ordOf x)).2.2.1, .slice sl.1 sl.2.1 sl.2.2] ∧ EvAt W (w.heap.size + 2) (Value.ownBlock _) sl (decS (foldTo l j).1 (ordOf x)).2.2.2) ⟨hI3, hY, hE⟩ ?_
          intro w3 hT
          clear hI3 hY hE hE0 hI2 hI1 hb hev
          generalize w2.heap.size = b at *
        case' refine_2 =>
          apply SeqP.eff
          · rfl
          intro KE hKE
          go_wp2_with fail
          refine hKE _ _ (hTP' _ ⟨hI1.1.drew.alloc hI1.1.size _, hI1.2.2.1.drew.alloc _⟩) ?_
          clear hKE KE
          apply SeqP.eff
          · rfl
          intro KE hKE
          go_wp2_with fail
          refine (ref_decide_out (foldTo l j).1 (ordOf x) _).mono ?_
          rintro e w2 ⟨sl, rfl, hev, hb⟩
          have hI2 := (hI1.drew.keep ((Below.refl _ _).alloc (Nat.le_refl _) _)).keep hb
          have hbx := (Blk.new w1.drew 33 [.int .i64 0, .int .i64 0, .slice none 0 0]).keep hb
          have p0 : w2.cell? ⟨w1.heap.size, 0, none⟩ = some (.int .i64 0) := hbx.cell 0
          have p1 : w2.cell? ⟨w1.heap.size, 1, none⟩ = some (.int .i64 0) := hbx.cell 1
          have p2 : w2.cell? ⟨w1.heap.size, 2, none⟩ = some (.slice none 0 0) := hbx.cell 2
          have f0 : w2.frozen? ⟨w1.heap.size, 0, none⟩ = false := hbx.frozen 0
          have f1 : w2.frozen? ⟨w1.heap.size, 1, none⟩ = false := hbx.frozen 1
          have f2 : w2.frozen? ⟨w1.heap.size, 2, none⟩ = false := hbx.frozen 2
          refine hKE _ _ (hTP' _ ⟨hI2.1, hI2.2.2.1⟩) ?_
          clear hKE KE
          apply SeqP.eff
          · rfl
          intro KE hKE
          go_wp2_with fail
          have hg : w2.grownBy (((w2.setCell ⟨w1.heap.size, 0, none⟩ (.int .i64 (decS (foldTo l j).1 (ordOf x)).2.1)).setCell ⟨w1.heap.size, 1, none⟩ (.int .i64 (decS (foldTo l j).1 (ordOf x)).2.2.1)).setCell ⟨w1.heap.size, 2, none⟩ (.slice sl.1 sl.2.1 sl.2.2)) (some w1.heap.size) := by
            (repeat (first | with_reducible apply only_drew | with_reducible refine only_setCell ?_ (by first | exact Or.inl rfl | (right; simp; done) | (right; simp; omega) | (right; omega)) _ | with_reducible refine only_alloc ?_ _ | with_reducible exact World.grownBy.refl _ _ | with_reducible assumption))
          have hY : Blk (((w2.setCell ⟨w1.heap.size, 0, none⟩ (.int .i64 (decS (foldTo l j).1 (ordOf x)).2.1)).setCell ⟨w1.heap.size, 1, none⟩ (.int .i64 (decS (foldTo l j).1 (ordOf x)).2.2.1)).setCell ⟨w1.heap.size, 2, none⟩ (.slice sl.1 sl.2.1 sl.2.2)) w1.heap.size 33 [.int .i64 (decS (foldTo l j).1 (ordOf x)).2.1, .int .i64 (decS (foldTo l j).1 (ordOf x)).2.2.1, .slice sl.1 sl.2.1 sl.2.2] := (((hbx.set 0 (.int .i64 (decS (foldTo l j).1 (ordOf x)).2.1)).set 1 (.int .i64 (decS (foldTo l j).1 (ordOf x)).2.2.1)).set 2 (.slice sl.1 sl.2.1 sl.2.2)).of_eq rfl
          have hz1 : (w1.alloc (.cells #[.int .i64 0, .int .i64 0, .slice none 0 0] 33)).drew.heap.size = w1.heap.size + 1 := by show (w1.heap.push _).size = _; rw [Array.size_push]
          have hE1 := hev.keep hg (fun g e => .inl (by cases e; rw [hz1]; omega))
          have hE := hE1.base (B' := w.heap.size + 2) (own := Value.ownBlock _) (by have := hI1.2.2.2.2; rw [hz1]; omega) (fun g e => by have := hI1.2.2.2.1.own_lt g e; rw [hz1]; omega)
          have hb2 : Below w1.drew.heap.size w1.drew w2 := below_trans ((Below.refl _ _).alloc (Nat.le_refl _) _) hb (by show w1.heap.size ≤ (w1.heap.push _).size; rw [Array.size_push]; exact Nat.le_succ _)
          have hI3 := hI1.drew.keep (below_only hb2 hg (Nat.le_refl _) hb2.size)
          have hbb : w.heap.size + 2 ≤ w1.heap.size := hI1.2.2.2.2
          refine hKE _ _ (hTP' _ ⟨hI3.1, hI3.2.2.1⟩) ?_
          clear hKE KE
          apply SeqP.nil
          refine hKP _ _ (hTP' _ (⟨hI3.1, hI3.2.2.1⟩)) ?_
          clear hKP hTP hTP'
          refine abs_at (fun W => RI w W _ (foldTo l j).1 (foldTo l j).2 ∧ Blk W w1.heap.size 33 [.int .i64 (decS (foldTo l j).1 (ordOf x)).2.1, .int .i64 (decS (foldTo l j).1 (ordOf x)).2.2.1, .slice sl.1 sl.2.1 sl.2.2] ∧ EvAt W (w.heap.size + 2) (Value.ownBlock _) sl (decS (foldTo l j).1 (ordOf x)).2.2.2) ⟨hI3, hY, hE⟩ ?_
          intro w3 hT
          clear hI3 hY hE hE1 hI2 hI1 hb hb2 hev hg hbx p0 p1 p2 f0 f1 f2 hz1
          generalize w1.heap.size = b at *
        all_goals
          have HD := Lib.hid (And.intro (fun k a => @decS_ev (foldTo l j).1 (ordOf x) k a) (@decS_nil (foldTo l j).1 (ordOf x)))
          generalize decS (foldTo l j).1 (ordOf x) = d at HS HD hT ⊢
          obtain ⟨ds, dc, dv, evs⟩ := d
          obtain ⟨hI, hX, hE⟩ := hT
          dsimp only at hX hE
          have hj2 : (foldTo l j).2.length < 1000000 := by rw [HS.out.2.2]; omega
          have x0 := hX.cell 0
          have x1 := hX.cell 1
          have x2 := hX.cell 2
          simp at x0 x1 x2
          by_cases hevs : evs = []
          · obtain rfl : sl = (none, 0, 0) := by
              rcases hE with h | ⟨_, _, _, _, h, _⟩
              · exact h.2
              · rw [hevs] at h; cases h
            subst hevs
            obtain ⟨v', w', hrun, hO5, hg5, _⟩ := Outs.snoc hI.2.2.2.1 (dc, dv, []) (none, 0, 0) hE hj2 hI.2.2.2.2 (H := w3.heap.size) rfl 26
            have HX := Lib.hid (And.intro hI (And.intro hO5 hg5))
            clear hO5 hg5 hI hE hX
            go_wp2_with fail
            refine wp_loop_rounds 1 ?_
            rw [rounds_succ]
            go_wp2_with (at_builtin; refine wpList_app rfl (by rfl) (by rfl) (by rfl) hrun ?_)
            go_roundg (l.length - (j + 1))
            case measure => have hkk := AA.out; omega
            case rel =>
              refine ⟨j + 1, rfl, by omega, by go_num, ?_⟩
              rw [HS.out.1]
              have hds : ds = (foldTo l j).1 := HD.out.2 (by trivial)
              dsimp only
              rw [hds]
              exact HX.out.1.app HX.out.2.2 HX.out.2.1
          · rcases id hE with h | ⟨g, k, a, rfl, rfl, g1, g2, g3, g4, g5, g6, g7⟩
            · exact absurd h.1 hevs
            clear hevs
            go_wp2_with fail
            refine wp_loop_rounds 2 ?_
            rw [rounds_succ]
            go_wp2_with fail
            refine wp_region_z [(0, true), (1, true), (2, true), (3, true), (4, true), (5, true), (6, false)] 7 (fun w' => Blk w' (w.heap.size + 1) 25 (stv (foldTo l j).1) ∧ w'.cell? ⟨b, 2, none⟩ = some (.slice (some ⟨g, 0, none⟩) 1 1) ∧ w'.cell? ⟨g, 0, none⟩ = some (.int .i64 k) ∧ w'.cell? ⟨g, 1, none⟩ = some (.int .i64 a)) (by kernel_rfl) (by kernel_rfl) (by kernel_rfl) (⟨hI.2.2.1.drew, x2, g4, g5⟩) rfl ?_
            intro KP RP TP hKP hTP hTP'
            simp only [pick, nth]
            go_wp2_with (first
              | (apply SeqP.skip; rfl; simp only [Act.put, List.setIfInBounds_toArray, List.set_cons_zero, List.set_cons_succ])
              | (apply SeqP.call; rfl; rfl; (intro w2 hw; have hw := hTP _ hw; ((obtain ⟨q0, q1, q2, q3⟩ := hw; have s0 := q0.cell 0; have s1 := q0.cell 1; have s2 := q0.cell 2; have s3 := q0.cell 3; simp [stv] at s0 s1 s2 s3)); go_simp; exact ⟨rfl, rfl⟩); (intro w2 hw; have hw := hTP _ hw; ((obtain ⟨q0, q1, q2, q3⟩ := hw; have s0 := q0.cell 0; have s1 := q0.cell 1; have s2 := q0.cell 2; have s3 := q0.cell 3; simp [stv] at s0 s1 s2 s3)); (first | fail)); simp only [Act.put, List.setIfInBounds_toArray, List.set_cons_zero, List.set_cons_succ])
              | (apply SeqP.pure; rfl; (intro w2 hw; have hw := hTP _ hw; ((obtain ⟨q0, q1, q2, q3⟩ := hw; have s0 := q0.cell 0; have s1 := q0.cell 1; have s2 := q0.cell 2; have s3 := q0.cell 3; simp [stv] at s0 s1 s2 s3)); go_simp; with_reducible rfl); simp only [Act.put, List.setIfInBounds_toArray, List.set_cons_zero, List.set_cons_succ])
              | (apply SeqP.split; rfl; rfl; all_goals (intro hc; simp only [hc]; try simp only [beq_iff_eq, decide_eq_true_eq, beq_eq_false_iff_ne, decide_eq_false_iff_not, bne_iff_ne, ne_eq, Bool.not_eq_true', Bool.not_eq_false', Int.not_le, Int.not_lt, bne_eq_false_iff_eq, Bool.or_eq_true, Bool.and_eq_true, Bool.or_eq_false_iff] at hc)))
            apply SeqP.eff
            · rfl
            intro KE hKE
            go_wp2_with fail
            refine (ref_apply_any _ _ _ _ _ _ _).mono ?_
            rintro e w4 ⟨rfl, hb⟩
            have hds : ds = applyS (foldTo l j).1 ⟨k, a⟩ := HD.out.1 k a (by trivial)
            generalize hap : applyS ⟨(foldTo l j).1.tag, (foldTo l j).1.closed, (foldTo l j).1.sum, (foldTo l j).1.ver⟩ ⟨k, a⟩ = p
            obtain rfl : p = ds := by rw [← hap]; exact hds.symm
            clear hap hds
            have hI4 := hI.drew.keep hb
            have hX4 := (hX.drew).keep hb
            have hE4 := EvAt.keep (w := w3.drew) hE (only_of_below hb none) (by simp)
            have y0 := hX4.cell 0
            have y1 := hX4.cell 1
            have y2 := hX4.cell 2
            simp at y0 y1 y2
            refine hKE _ _ (hTP' _ ⟨hI4.2.2.1, y2, (hb.cell (p := ⟨g, 0, none⟩) g2).trans g4, (hb.cell (p := ⟨g, 1, none⟩) g2).trans g5⟩) ?_
            clear hKE KE hI hX hE hb
            apply SeqP.nil
            apply LastZ.eff
            · rfl
            have s0 := hI4.2.2.1.cell 0
            have s1 := hI4.2.2.1.cell 1
            have s2 := hI4.2.2.1.cell 2
            have s3 := hI4.2.2.1.cell 3
            have f0 := hI4.2.2.1.frozen 0
            have f1 := hI4.2.2.1.frozen 1
            have f2 := hI4.2.2.1.frozen 2
            have f3 := hI4.2.2.1.frozen 3
            simp [stv] at s0 s1 s2 s3
            go_wp2_with fail
            clear hTP hTP' x0 x1 x2 s0 s1 s2 s3 f0 f1 f2 f3 g1 g2 g3 g4 g5 g6 g7
            have hg6 : w4.grownBy ((((w4.setCell ⟨w.heap.size + 1, 0, none⟩ (.int .i64 p.tag)).setCell ⟨w.heap.size + 1, 1, none⟩ (.bool p.closed)).setCell ⟨w.heap.size + 1, 2, none⟩ (.int .i64 p.sum)).setCell ⟨w.heap.size + 1, 3, none⟩ (.int .i64 p.ver)) (some (w.heap.size + 1)) := by
              (repeat (first | with_reducible apply only_drew | with_reducible refine only_setCell ?_ (by first | exact Or.inl rfl | (right; simp; done) | (right; simp; omega) | (right; omega)) _ | with_reducible refine only_alloc ?_ _ | with_reducible exact World.grownBy.refl _ _ | with_reducible assumption))
            have hI6 : RI w ((((w4.setCell ⟨w.heap.size + 1, 0, none⟩ (.int .i64 p.tag)).setCell ⟨w.heap.size + 1, 1, none⟩ (.bool p.closed)).setCell ⟨w.heap.size + 1, 2, none⟩ (.int .i64 p.sum)).setCell ⟨w.heap.size + 1, 3, none⟩ (.int .i64 p.ver)) _ p (foldTo l j).2 := ⟨below_only hI4.1 hg6 (by omega) hI4.1.size, hI4.2.1.grown hg6 (by simp), ((((hI4.2.2.1.set 0 (.int .i64 p.tag)).set 1 (.bool p.closed)).set 2 (.int .i64 p.sum)).set 3 (.int .i64 p.ver)).of_eq rfl, hI4.2.2.2.1.keep hg6 (by intro g e; cases e; omega), Nat.le_trans hI4.2.2.2.2 hg6.size⟩
            have hX6 := hX4.grown hg6 (by simp; omega)
            have hE6 := hE4.keep hg6 (fun g e => .inl (by cases e; omega))
            obtain ⟨v', w', hrun, hO7, hg7, _⟩ := Outs.snoc hI6.2.2.2.1 (dc, dv, [(k, a)]) (some ⟨g, 0, none⟩, 1, 1) hE6 hj2 hI6.2.2.2.2 (H := w4.heap.size) (by simp [World.setCell]) 26
            have HX := Lib.hid (And.intro hI6 (And.intro hO7 hg7))
            clear hO7 hg7 hI6 hI4 hX4 hE4 hE6 hg6 y0 y1 y2
            have y0 := hX6.cell 0
            have y1 := hX6.cell 1
            have y2 := hX6.cell 2
            simp only [List.getElem?_cons_zero, List.getElem?_cons_succ] at y0 y1 y2
            clear hX6
            rw [rounds_succ]
            go_wp2_with (at_builtin; refine wpList_app rfl (by rfl) (by rfl) (by rfl) hrun ?_)
            go_roundg (l.length - (j + 1))
            case measure => have hkk := AA.out; omega
            case rel =>
              refine ⟨j + 1, rfl, by omega, by go_num, ?_⟩
              rw [HS.out.1]
              exact HX.out.1.app HX.out.2.2 HX.out.2.1
    · obtain rfl : j = l.length := by omega
      obtain ⟨hB, hR, hS, hO, hz⟩ := hI
      have s0 := hS.cell 0
      have s1 := hS.cell 1
      have s2 := hS.cell 2
      have s3 := hS.cell 3
      have r0 := hR.cell 0
      have r1 := hR.cell 1
      have r2 := hR.cell 2
      have r3 := hR.cell 3
      have f0 := hR.frozen 0
      have f1 := hR.frozen 1
      have f2 := hR.frozen 2
      have f3 := hR.frozen 3
      simp [stv] at s0 s1 s2 s3 r0 r1 r2 r3
      go_wp2_with fail
      apply ret_of
      · simp only [results, Try.results16]
        go_simp
        with_reducible rfl
      refine ⟨rfl, _, rfl, ?_, ?_⟩
      · refine hO.keep (row := some w.heap.size) ?_ (by intro g e; cases e; omega)
        (repeat (first | with_reducible apply only_drew | with_reducible refine only_setCell ?_ (by first | exact Or.inl rfl | (right; simp; done) | (right; simp; omega) | (right; omega)) _ | with_reducible refine only_alloc ?_ _ | with_reducible exact World.grownBy.refl _ _ | with_reducible assumption))
      · (repeat (first | with_reducible apply Below.drew | with_reducible refine Below.setCell ?_ (by first | exact Nat.le_refl _ | (simp; done) | (simp; omega) | omega) _ | with_reducible refine Below.alloc ?_ (by first | exact Nat.le_refl _ | (simp; done) | (simp; omega) | omega) _ | with_reducible exact Below.refl _ _ | with_reducible assumption))
end Go.Proofs.Ytifeokabecgimaa
