/-
  The walk over Add of a ballot.
  Promises in another order, in plain Lean; what a ballot asks.
  The walk over 'register.viewed'.
  The walk over 'register.Apply'.
  The walk over 'register.May'.
  The walk over chapter 15's 'SameRegister', and 'great'.
  Registers that are held in variables, and what chapter 15's statements call beside register itself.
-/
import Derived.Test.YtbicefilfhcgoaaBallotsKeepK1
import Derived.Test.YtbicefilfhcgoaaBallotsKeepK2
import Derived.Test.YtbicefilfhcgoaaBallotsKeepK3
import Derived.Test.YtbicefilfhcgoaaBallotsKeepK4
set_option linter.unusedSimpArgs false
set_option linter.unusedVariables false
set_option maxRecDepth 100000
namespace Go.Proofs.Ytbicefilfhcgoaa
open Go Go.RowKit Go.Sq Go.Wd Go.Arch

/-- What Add leaves. -/
def AddPost (b : BegS) (S : Slots) (g B : Nat) (m : MailS) (w : World) (e : Ending) (w' : World) : Prop :=
  e = .returned (.bool (decide (addOk b S m))) ∧ BalAt w' B g b (addS b S m) ∧ Kept w w' (some g) none

/-- Both blocks. -/
def AddW (w w' : World) (g : Nat) (b : BegS) (S : Slots) (sl : Sls) (x : MailV) : Prop := Below w.heap.size w w' ∧ Blk w' w.heap.size 65 (mailv x) ∧ Blk w' g 85 (balv b S sl)
theorem AddW.cells {w w' : World} {g : Nat} {b : BegS} {S : Slots} {sl : Sls} {x : MailV} (h : AddW w w' g b S sl x) :
    (w'.cell? ⟨w.heap.size, 0, none⟩ = some (.int .i64 x.m.kind) ∧ w'.cell? ⟨w.heap.size, 1, none⟩ = some (.int .i64 x.m.from_) ∧ w'.cell? ⟨w.heap.size, 2, none⟩ = some (.int .i64 x.m.to) ∧ w'.cell? ⟨w.heap.size, 3, none⟩ = some (.int .i64 x.m.stream) ∧
     w'.cell? ⟨w.heap.size, 4, none⟩ = some (.int .i64 x.m.epoch) ∧ w'.cell? ⟨w.heap.size, 8, none⟩ = some (.int .i64 x.m.stamp)) ∧
    (w'.cell? ⟨g, 0, none⟩ = some (.int .i64 b.stream) ∧ w'.cell? ⟨g, 1, none⟩ = some (.int .i64 b.epoch) ∧ w'.cell? ⟨g, 2, none⟩ = some (.int .i64 b.site) ∧ w'.cell? ⟨g, 3, none⟩ = some (.int .i64 b.n) ∧ w'.cell? ⟨g, 4, none⟩ = some (.int .i64 b.stamp)) ∧
    ∀ k, k < 7 → w'.cell? ⟨g, 5 + k, none⟩ = some (.bool (S k).isSome) := by
  obtain ⟨_, h1, h2⟩ := h
  refine ⟨⟨h1.cell 0, h1.cell 1, h1.cell 2, h1.cell 3, h1.cell 4, h1.cell 8⟩, ⟨h2.cell 0, h2.cell 1, h2.cell 2, h2.cell 3, h2.cell 4⟩, fun k hk => ?_⟩
  rw [h2.cell, balv_had b S sl hk]

theorem add_no {b : BegS} {S : Slots} {g B : Nat} {m : MailS} {w w' : World} (h : ¬ addOk b S m) (hb : BalAt w' B g b S) (hk : Kept w w' (some g) none) : AddPost b S g B m w (.returned (.bool false)) w' := by
  refine ⟨ret_bool (by rw [decide_eq_false h]), ?_, hk⟩
  unfold addS
  rw [if_neg h]
  exact hb

set_option maxHeartbeats 8000000 in
theorem add_any (B g : Nat) (b : BegS) (S : Slots) (x : MailV) (w : World) (H : BalAt w B g b S) (hB : B ≤ w.heap.size) (hn : sitesE b.n = true) (hl : LogAt w w.heap.size x.es x.m.ents) (h2 : x.m.ents.length ≤ 2000) :
    Calls Try.prog 31 #[.pointer (some ⟨g, 0, none⟩), .agg (mailv x).toArray] w fun e w' => AddPost b S g B x.m w e w' := by
  obtain ⟨sl, hb, hr⟩ := H
  have hz : Below w.heap.size w (w.alloc (.cells (mailv x).toArray 65)) := (Below.refl _ _).alloc (Nat.le_refl _) _
  have hA : AddW w (w.alloc (.cells (mailv x).toArray 65)) g b S sl x := ⟨hz, Blk.new w _ _, hb.keep hz⟩
  have hn0 : (b.n == 0) = false := by
    rw [beq_eq_false_iff_ne]
    rcases sites_cases hn with e | e | e | e | e | e <;> omega
  have HH := Lib.hid (And.intro hA (And.intro hr (And.intro hl hn)))
  have hg := hb.lt
  clear hA hr hl hz hb
  unfold sitesE at hn
  simp only [decide_eq_true_eq] at hn
  by_cases hp : addPre b S x.m
  case pos =>
    have HP := Lib.hid hp
    obtain ⟨p1, p2, p3, p4, p5, p6, p7, p8⟩ := hp
    obtain ⟨K, hK⟩ := Int.eq_ofNat_of_zero_le p5
    have hK7 : K < 7 := by omega
    have e1 : (x.m.kind != 2) = false := by simpa using p1
    have e2 : (x.m.stream != b.stream) = false := by simpa using p2
    have e3 : (x.m.epoch != b.epoch) = false := by simpa using p3
    have e4 : (x.m.to != b.site) = false := by simpa using p4
    have e8 : (x.m.stamp != b.stamp) = false := by simpa using p8
    have e5 : ¬ (K : Int) < 0 := by omega
    have e6 : ¬ b.n ≤ (K : Int) := by omega
    have e7 : (0 : Int) ≤ (K : Int) := by omega
    have e5' : decide ((K : Int) < 0) = false := decide_eq_false e5
    have e6' : decide (b.n ≤ (K : Int)) = false := by simpa using e6
    have e9 : (K : Int) < 7 := by omega
    have hSK : (S K).isSome = false := by
      have : x.m.from_.toNat = K := by omega
      rw [this] at p7
      rw [p7]
      rfl
    have HK := Lib.hid (And.intro hK hSK)
    have FC : ∀ w', AddW w w' g b S sl x → (w'.cell? ⟨w.heap.size, 0, none⟩ = some (.int .i64 x.m.kind) ∧ w'.cell? ⟨w.heap.size, 1, none⟩ = some (.int .i64 (K : Int)) ∧ w'.cell? ⟨w.heap.size, 2, none⟩ = some (.int .i64 x.m.to) ∧ w'.cell? ⟨w.heap.size, 3, none⟩ = some (.int .i64 x.m.stream) ∧
        w'.cell? ⟨w.heap.size, 4, none⟩ = some (.int .i64 x.m.epoch) ∧ w'.cell? ⟨w.heap.size, 8, none⟩ = some (.int .i64 x.m.stamp)) ∧
        (w'.cell? ⟨g, 0, none⟩ = some (.int .i64 b.stream) ∧ w'.cell? ⟨g, 1, none⟩ = some (.int .i64 b.epoch) ∧ w'.cell? ⟨g, 2, none⟩ = some (.int .i64 b.site) ∧ w'.cell? ⟨g, 3, none⟩ = some (.int .i64 b.n) ∧ w'.cell? ⟨g, 4, none⟩ = some (.int .i64 b.stamp)) ∧
        w'.cell? ⟨g, 5 + K, none⟩ = some (.bool false) := fun w' h => by
      have hc := h.cells
      rw [HK.out.1] at hc
      have h7 := hc.2.2 K hK7
      rw [HK.out.2] at h7
      exact ⟨hc.1, hc.2.1, h7⟩
    clear p1 p2 p3 p4 p5 p6 p7 p8 hK hSK
    go_enter Try.func31, Try.ntmps31
    go_wp2_with fail
    refine wp_region_p ([(0, true), (1, true), (2, true), (3, true), (4, true), (5, true), (6, true), (7, true), (8, true), (9, true), (10, true), (11, true), (12, true), (13, true), (14, true), (15, true), (16, true), (17, true), (18, true), (19, true), (20, true), (21, true), (22, true), (23, true), (24, true), (25, true), (26, true), (27, true), (28, true), (29, true), (30, true), (31, true), (32, true), (33, true), (34, true), (35, true), (36, true), (37, true), (38, true), (39, true), (40, true), (41, true), (42, true), (43, true), (44, true), (45, true), (46, true), (47, true), (48, true), (49, true), (50, true), (51, true), (52, true), (53, true), (54, true), (55, true), (56, true), (57, true), (58, true), (59, true), (60, true), (61, true), (62, true), (63, true), (64, true), (65, true)]) (fun w' => AddW w w' g b S sl x) (by kernel_rfl) rfl (by kernel_rfl) (by kernel_rfl) (⟨HH.out.1.1.drew, HH.out.1.2.1.drew, HH.out.1.2.2.drew⟩) rfl ?_
    intro KP RP TP hKP hTP hTP'
    simp only [List.append_eq, List.cons_append, List.nil_append, pick, nth]
    go_wp2_with (first
      | (apply SeqP.skip; rfl; simp only [Act.put, List.setIfInBounds_toArray, List.set_cons_zero, List.set_cons_succ])
      | (apply SeqP.call; rfl; rfl; (intro w2 hw; have hw := hTP _ hw; ((obtain ⟨⟨q0, q1, q2, q3, q4, q5⟩, ⟨r0, r1, r2, r3, r4⟩, t0⟩ := FC _ hw)); go_simp; exact ⟨rfl, rfl⟩); (intro w2 hw; have hw := hTP _ hw; ((obtain ⟨⟨q0, q1, q2, q3, q4, q5⟩, ⟨r0, r1, r2, r3, r4⟩, t0⟩ := FC _ hw)); (first | (go_at_call 52; refine (none_any g b.n _ (FC _ hw).2.1.2.2.2.1).mono ?_; rintro e w' ⟨rfl, rfl⟩; exact ⟨rfl, rfl⟩))); simp only [Act.put, List.setIfInBounds_toArray, List.set_cons_zero, List.set_cons_succ])
      | (apply SeqP.pure; rfl; (intro w2 hw; have hw := hTP _ hw; ((obtain ⟨⟨q0, q1, q2, q3, q4, q5⟩, ⟨r0, r1, r2, r3, r4⟩, t0⟩ := FC _ hw)); go_simp; with_reducible rfl); simp only [Act.put, List.setIfInBounds_toArray, List.set_cons_zero, List.set_cons_succ])
      | (apply SeqP.split; rfl; rfl; all_goals (intro hc; simp only [hc]; try simp only [beq_iff_eq, decide_eq_true_eq, beq_eq_false_iff_ne, decide_eq_false_iff_not, bne_iff_ne, ne_eq, Bool.not_eq_true', Bool.not_eq_false', Int.not_le, Int.not_lt, bne_eq_false_iff_eq, Bool.or_eq_true, Bool.and_eq_true, Bool.or_eq_false_iff] at hc)))
    apply SeqP.nil
    refine hKP _ _ (hTP' _ (⟨HH.out.1.1.drew, HH.out.1.2.1.drew, HH.out.1.2.2.drew⟩)) ?_
    clear hKP hTP hTP'
    refine abs_at (fun W => AddW w W g b S sl x) ⟨HH.out.1.1.drew, HH.out.1.2.1.drew, HH.out.1.2.2.drew⟩ ?_
    intro w1 hA1
    have m4 : w1.cell? ⟨w.heap.size, 4, none⟩ = some (.int .i64 x.m.epoch) := hA1.2.1.cell 4
    have m5 : w1.cell? ⟨w.heap.size, 5, none⟩ = some (.int .i64 x.m.view) := hA1.2.1.cell 5
    have m9 : w1.cell? ⟨w.heap.size, 9, none⟩ = some (.slice x.es.1 x.es.2.1 x.es.2.2) := hA1.2.1.cell 9
    have m7 : w1.cell? ⟨w.heap.size, 7, none⟩ = some (.int .i64 x.m.len) := hA1.2.1.cell 7
    have lm := hA1.2.1.lt
    have HA := Lib.hid hA1
    clear hA1 FC e1 e2 e3 e4 e5 e6 e7 e8 e9 e5' e6'
    go_wp2_with fail
    have g1 := HA.out.1.alloc HA.out.1.size (.cells (rgv x.m.reg x.es).toArray 24)
    have R1 := Blk.new w1 24 (rgv x.m.reg x.es)
    have A1 : AddW w (w1.alloc (.cells (rgv x.m.reg x.es).toArray 24)) g b S sl x := ⟨g1, HA.out.2.1.alloc _, HA.out.2.2.alloc _⟩
    have HA1 := Lib.hid (And.intro A1 R1)
    clear A1 R1 g1 m4 m5 m9 m7
    refine wp_region_p ([(0, true), (1, false), (2, true), (3, true), (4, true), (5, true), (6, true), (7, true), (8, true), (9, true), (10, true), (11, true)]) (fun w' => AddW w w' g b S sl x ∧ Blk w' w1.heap.size 24 (rgv x.m.reg x.es)) (by kernel_rfl) rfl (by kernel_rfl) (by kernel_rfl) (⟨⟨HA1.out.1.1.drew, HA1.out.1.2.1.drew, HA1.out.1.2.2.drew⟩, HA1.out.2.drew⟩) rfl ?_
    intro KP RP TP hKP hTP hTP'
    simp only [pick, nth]
    go_wp2_with (first
      | (apply SeqP.skip; rfl; simp only [Act.put, List.setIfInBounds_toArray, List.set_cons_zero, List.set_cons_succ])
      | (apply SeqP.pure; rfl; (intro w2 hw; have hw := hTP _ hw; exact exec_load_blk 24 _ rfl _ rfl _ _ hw.2 _ Try.underlying24 rfl rg_info); simp only [Act.put, List.setIfInBounds_toArray, List.set_cons_zero, List.set_cons_succ])
      | (apply SeqP.call; rfl; rfl; (intro w2 hw; have hw := hTP _ hw; (skip); go_simp; exact ⟨rfl, rfl⟩); (intro w2 hw; have hw := hTP _ hw; (skip); (first | fail)); simp only [Act.put, List.setIfInBounds_toArray, List.set_cons_zero, List.set_cons_succ])
      | (apply SeqP.pure; rfl; (intro w2 hw; have hw := hTP _ hw; (skip); go_simp; with_reducible rfl); simp only [Act.put, List.setIfInBounds_toArray, List.set_cons_zero, List.set_cons_succ])
      | (apply SeqP.split; rfl; rfl; all_goals (intro hc; simp only [hc]; try simp only [beq_iff_eq, decide_eq_true_eq, beq_eq_false_iff_ne, decide_eq_false_iff_not, bne_iff_ne, ne_eq, Bool.not_eq_true', Bool.not_eq_false', Int.not_le, Int.not_lt, bne_eq_false_iff_eq, Bool.or_eq_true, Bool.and_eq_true, Bool.or_eq_false_iff] at hc)))
    apply SeqP.eff
    · rfl
    intro KE hKE
    go_wp2_with fail
    refine (check15_any x.m.reg x.es _ (HH.out.2.2.1.keep HA1.out.1.1.drew)).mono ?_
    rintro e w2 ⟨rfl, hb⟩
    have hd := HA1.out.1.1.drew
    have hw2 := below_trans hd hb hd.size
    have A2 : AddW w w2 g b S sl x := ⟨hw2, HA1.out.1.2.1.drew.keep hb, HA1.out.1.2.2.drew.keep hb⟩
    have R2 : Blk w2 w1.heap.size 24 (rgv x.m.reg x.es) := HA1.out.2.drew.keep hb
    refine hKE _ _ (hTP' _ ⟨A2, R2⟩) ?_
    clear hKE hb hd HA1 HA
    have FR : ∀ w', AddW w w' g b S sl x ∧ Blk w' w1.heap.size 24 (rgv x.m.reg x.es) → w'.cell? ⟨w1.heap.size, 1, none⟩ = some (.int .i64 x.m.view) ∧ w'.cell? ⟨g, 1, none⟩ = some (.int .i64 b.epoch) := fun w' h => ⟨h.2.cell 1, h.1.2.2.cell 1⟩
    have H2 := Lib.hid (And.intro hw2 (And.intro A2 R2))
    clear hw2 A2 R2
    have hcases : (mayR x.m.reg = true ∧ x.m.view < b.epoch) ∨ mayR x.m.reg = false ∨ (mayR x.m.reg = true ∧ b.epoch ≤ x.m.view) := by
      cases mayR x.m.reg with
      | false => exact .inr (.inl rfl)
      | true => exact (Int.lt_or_le x.m.view b.epoch).elim (fun h => .inl ⟨rfl, h⟩) (fun h => .inr (.inr ⟨rfl, h⟩))
    rcases hcases with ⟨hm, hv⟩ | hm | ⟨hm, hv⟩
    · have HOK : Hid (addOk b S x.m) := Lib.hid ⟨HP.out, hm, hv⟩
      have hv1 : ¬ b.epoch ≤ x.m.view := by omega
      have hv2 : decide (b.epoch ≤ x.m.view) = false := by simpa using hv1
      rw [hm]
      clear hm
      go_wp2_with (first
        | (apply SeqP.skip; rfl; simp only [Act.put, List.setIfInBounds_toArray, List.set_cons_zero, List.set_cons_succ])
        | (apply SeqP.call; rfl; rfl; (intro w2 hw; have hw := hTP _ hw; ((obtain ⟨q0, q1⟩ := FR _ hw)); go_simp; exact ⟨rfl, rfl⟩); (intro w2 hw; have hw := hTP _ hw; ((obtain ⟨q0, q1⟩ := FR _ hw)); (first | fail)); simp only [Act.put, List.setIfInBounds_toArray, List.set_cons_zero, List.set_cons_succ])
        | (apply SeqP.pure; rfl; (intro w2 hw; have hw := hTP _ hw; ((obtain ⟨q0, q1⟩ := FR _ hw)); go_simp; with_reducible rfl); simp only [Act.put, List.setIfInBounds_toArray, List.set_cons_zero, List.set_cons_succ])
        | (apply SeqP.split; rfl; rfl; all_goals (intro hc; simp only [hc]; try simp only [beq_iff_eq, decide_eq_true_eq, beq_eq_false_iff_ne, decide_eq_false_iff_not, bne_iff_ne, ne_eq, Bool.not_eq_true', Bool.not_eq_false', Int.not_le, Int.not_lt, bne_eq_false_iff_eq, Bool.or_eq_true, Bool.and_eq_true, Bool.or_eq_false_iff] at hc)))
      apply SeqP.nil
      refine hKP _ _ (hTP' _ (⟨H2.out.2.1, H2.out.2.2⟩)) ?_
      clear hKP hTP hTP'
      have c1 : w2.cell? ⟨w.heap.size, 1, none⟩ = some (.int .i64 (K : Int)) := by
        rw [← HK.out.1]
        exact H2.out.2.1.2.1.cell 1
      clear FR
      go_wp2_with ((with_reducible refine at_list ?_); first | refine wpList_load_blk rfl 24 _ rfl _ rfl _ _ _ (H2.out.2.2) Try.underlying24 rfl rg_info ?_)
      refine (put_any g K b S sl x.m.reg x.es w2 H2.out.2.1.2.2 hK7 (HH.out.2.2.1.keep H2.out.1) h2).mono ?_
      rintro e w3 ⟨rfl, s', hB3, hR3, hK3⟩
      have HF := Lib.hid (And.intro hB3 (And.intro hR3 hK3))
      clear hB3 hR3 hK3 c1
      go_wp2_with fail
      go_ret
      have hfr : x.m.from_.toNat = K := by have := HK.out.1; omega
      have hsz := H2.out.1.size
      refine ⟨ret_bool (by rw [decide_eq_true HOK.out]), ?_, (Kept.ofBelow H2.out.1 _ _).trans HF.out.2.2⟩
      unfold addS
      rw [if_pos HOK.out, hfr]
      refine ⟨_, HF.out.1, fun i hi => ?_⟩
      by_cases hik : i = K
      · subst hik
        rw [upS_at, regOf_at]
        exact HF.out.2.1.base (by omega)
      · rw [upS_far _ _ hik, regOf_far _ _ hik]
        exact HF.out.2.2.own ((HH.out.2.1 i hi).keep H2.out.1) (fun q e => by cases e; exact blk_not H2.out.2.1.2.2 (by decide)) (fun q e => by cases e)
    · have HNO : Hid (¬ addOk b S x.m) := Lib.hid (fun h => by rw [h.2.1] at hm; cases hm)
      rw [hm]
      clear hm
      go_wp2_with (first
        | (apply SeqP.skip; rfl; simp only [Act.put, List.setIfInBounds_toArray, List.set_cons_zero, List.set_cons_succ])
        | (apply SeqP.call; rfl; rfl; (intro w2 hw; have hw := hTP _ hw; ((obtain ⟨q0, q1⟩ := FR _ hw)); go_simp; exact ⟨rfl, rfl⟩); (intro w2 hw; have hw := hTP _ hw; ((obtain ⟨q0, q1⟩ := FR _ hw)); (first | fail)); simp only [Act.put, List.setIfInBounds_toArray, List.set_cons_zero, List.set_cons_succ])
        | (apply SeqP.pure; rfl; (intro w2 hw; have hw := hTP _ hw; ((obtain ⟨q0, q1⟩ := FR _ hw)); go_simp; with_reducible rfl); simp only [Act.put, List.setIfInBounds_toArray, List.set_cons_zero, List.set_cons_succ])
        | (apply SeqP.split; rfl; rfl; all_goals (intro hc; simp only [hc]; try simp only [beq_iff_eq, decide_eq_true_eq, beq_eq_false_iff_ne, decide_eq_false_iff_not, bne_iff_ne, ne_eq, Bool.not_eq_true', Bool.not_eq_false', Int.not_le, Int.not_lt, bne_eq_false_iff_eq, Bool.or_eq_true, Bool.and_eq_true, Bool.or_eq_false_iff] at hc)))
      apply SeqP.nil
      refine hKP _ _ (hTP' _ (⟨H2.out.2.1, H2.out.2.2⟩)) ?_
      clear hKP hTP hTP'
      clear FR
      go_wp2_with fail
      go_ret
      refine ⟨ret_bool (by rw [decide_eq_false HNO.out]), ?_, Kept.ofBelow H2.out.1 _ _⟩
      unfold addS
      rw [if_neg HNO.out]
      exact ⟨sl, H2.out.2.1.2.2, fun i hi => (HH.out.2.1 i hi).keep H2.out.1⟩
    · have HNO : Hid (¬ addOk b S x.m) := Lib.hid (fun h => by have := h.2.2; omega)
      have hv2 : decide (b.epoch ≤ x.m.view) = true := by simpa using hv
      rw [hm]
      clear hm
      go_wp2_with (first
        | (apply SeqP.skip; rfl; simp only [Act.put, List.setIfInBounds_toArray, List.set_cons_zero, List.set_cons_succ])
        | (apply SeqP.call; rfl; rfl; (intro w2 hw; have hw := hTP _ hw; ((obtain ⟨q0, q1⟩ := FR _ hw)); go_simp; exact ⟨rfl, rfl⟩); (intro w2 hw; have hw := hTP _ hw; ((obtain ⟨q0, q1⟩ := FR _ hw)); (first | fail)); simp only [Act.put, List.setIfInBounds_toArray, List.set_cons_zero, List.set_cons_succ])
        | (apply SeqP.pure; rfl; (intro w2 hw; have hw := hTP _ hw; ((obtain ⟨q0, q1⟩ := FR _ hw)); go_simp; with_reducible rfl); simp only [Act.put, List.setIfInBounds_toArray, List.set_cons_zero, List.set_cons_succ])
        | (apply SeqP.split; rfl; rfl; all_goals (intro hc; simp only [hc]; try simp only [beq_iff_eq, decide_eq_true_eq, beq_eq_false_iff_ne, decide_eq_false_iff_not, bne_iff_ne, ne_eq, Bool.not_eq_true', Bool.not_eq_false', Int.not_le, Int.not_lt, bne_eq_false_iff_eq, Bool.or_eq_true, Bool.and_eq_true, Bool.or_eq_false_iff] at hc)))
      apply SeqP.nil
      refine hKP _ _ (hTP' _ (⟨H2.out.2.1, H2.out.2.2⟩)) ?_
      clear hKP hTP hTP'
      clear FR
      go_wp2_with fail
      go_ret
      refine ⟨ret_bool (by rw [decide_eq_false HNO.out]), ?_, Kept.ofBelow H2.out.1 _ _⟩
      unfold addS
      rw [if_neg HNO.out]
      exact ⟨sl, H2.out.2.1.2.2, fun i hi => (HH.out.2.1 i hi).keep H2.out.1⟩
  case neg =>
    have HNO : Hid (¬ addOk b S x.m) := Lib.hid (fun h => hp h.1)
    have HP := Lib.hid hp
    clear hp
    have FC : ∀ w', AddW w w' g b S sl x → (w'.cell? ⟨w.heap.size, 0, none⟩ = some (.int .i64 x.m.kind) ∧ w'.cell? ⟨w.heap.size, 1, none⟩ = some (.int .i64 x.m.from_) ∧ w'.cell? ⟨w.heap.size, 2, none⟩ = some (.int .i64 x.m.to) ∧ w'.cell? ⟨w.heap.size, 3, none⟩ = some (.int .i64 x.m.stream) ∧
        w'.cell? ⟨w.heap.size, 4, none⟩ = some (.int .i64 x.m.epoch) ∧ w'.cell? ⟨w.heap.size, 8, none⟩ = some (.int .i64 x.m.stamp)) ∧
        (w'.cell? ⟨g, 0, none⟩ = some (.int .i64 b.stream) ∧ w'.cell? ⟨g, 1, none⟩ = some (.int .i64 b.epoch) ∧ w'.cell? ⟨g, 2, none⟩ = some (.int .i64 b.site) ∧ w'.cell? ⟨g, 3, none⟩ = some (.int .i64 b.n) ∧ w'.cell? ⟨g, 4, none⟩ = some (.int .i64 b.stamp)) := fun w' h => ⟨h.cells.1, h.cells.2.1⟩
    by_cases e1p : x.m.kind = 2
    case neg =>
      have e1 : (x.m.kind != 2) = true := by simpa using e1p
      clear e1p
      go_enter Try.func31, Try.ntmps31
      go_wp2_with fail
      refine wp_region_p ([(0, true), (1, true), (2, true), (3, true), (4, true), (5, true), (6, true), (7, true), (8, true), (9, true), (10, true), (11, true), (12, true), (13, true), (14, true), (15, true), (16, true), (17, true), (18, true), (19, true), (20, true), (21, true), (22, true), (23, true), (24, true), (25, true), (26, true), (27, true), (28, true), (29, true), (30, true), (31, true), (32, true), (33, true), (34, true), (35, true), (36, true), (37, true), (38, true), (39, true), (40, true), (41, true), (42, true), (43, true), (44, true), (45, true), (46, true), (47, true), (48, true), (49, true), (50, true), (51, true), (52, true), (53, true), (54, true), (55, true), (56, true), (57, true), (58, true), (59, true), (60, true), (61, true), (62, true), (63, true), (64, true), (65, true)]) (fun w' => AddW w w' g b S sl x) (by kernel_rfl) rfl (by kernel_rfl) (by kernel_rfl) (⟨HH.out.1.1.drew, HH.out.1.2.1.drew, HH.out.1.2.2.drew⟩) rfl ?_
      intro KP RP TP hKP hTP hTP'
      simp only [List.append_eq, List.cons_append, List.nil_append, pick, nth]
      go_wp2_with (first
        | (apply SeqP.skip; rfl; simp only [Act.put, List.setIfInBounds_toArray, List.set_cons_zero, List.set_cons_succ])
        | (apply SeqP.call; rfl; rfl; (intro w2 hw; have hw := hTP _ hw; ((obtain ⟨⟨q0, q1, q2, q3, q4, q5⟩, ⟨r0, r1, r2, r3, r4⟩⟩ := FC _ hw)); go_simp; exact ⟨rfl, rfl⟩); (intro w2 hw; have hw := hTP _ hw; ((obtain ⟨⟨q0, q1, q2, q3, q4, q5⟩, ⟨r0, r1, r2, r3, r4⟩⟩ := FC _ hw)); (first | (go_at_call 52; refine (none_any g b.n _ (FC _ hw).2.2.2.2.1).mono ?_; rintro e w' ⟨rfl, rfl⟩; exact ⟨rfl, rfl⟩))); simp only [Act.put, List.setIfInBounds_toArray, List.set_cons_zero, List.set_cons_succ])
        | (apply SeqP.pure; rfl; (intro w2 hw; have hw := hTP _ hw; ((obtain ⟨⟨q0, q1, q2, q3, q4, q5⟩, ⟨r0, r1, r2, r3, r4⟩⟩ := FC _ hw)); go_simp; with_reducible rfl); simp only [Act.put, List.setIfInBounds_toArray, List.set_cons_zero, List.set_cons_succ])
        | (apply SeqP.split; rfl; rfl; all_goals (intro hc; simp only [hc]; try simp only [beq_iff_eq, decide_eq_true_eq, beq_eq_false_iff_ne, decide_eq_false_iff_not, bne_iff_ne, ne_eq, Bool.not_eq_true', Bool.not_eq_false', Int.not_le, Int.not_lt, bne_eq_false_iff_eq, Bool.or_eq_true, Bool.and_eq_true, Bool.or_eq_false_iff] at hc)))
      apply SeqP.nil
      refine hKP _ _ (hTP' _ (⟨HH.out.1.1.drew, HH.out.1.2.1.drew, HH.out.1.2.2.drew⟩)) ?_
      clear hKP hTP hTP'
      go_wp2_with fail
      go_ret
      exact add_no HNO.out ⟨sl, HH.out.1.2.2.drew, fun i hi => (HH.out.2.1 i hi).keep HH.out.1.1.drew⟩ (Kept.ofBelow HH.out.1.1.drew _ _)
    have e1 : (x.m.kind != 2) = false := by simpa using e1p
    have He1 := Lib.hid e1p
    clear e1p
    by_cases e2p : x.m.stream = b.stream
    case neg =>
      have e2 : (x.m.stream != b.stream) = true := by simpa using e2p
      clear e2p
      go_enter Try.func31, Try.ntmps31
      go_wp2_with fail
      refine wp_region_p ([(0, true), (1, true), (2, true), (3, true), (4, true), (5, true), (6, true), (7, true), (8, true), (9, true), (10, true), (11, true), (12, true), (13, true), (14, true), (15, true), (16, true), (17, true), (18, true), (19, true), (20, true), (21, true), (22, true), (23, true), (24, true), (25, true), (26, true), (27, true), (28, true), (29, true), (30, true), (31, true), (32, true), (33, true), (34, true), (35, true), (36, true), (37, true), (38, true), (39, true), (40, true), (41, true), (42, true), (43, true), (44, true), (45, true), (46, true), (47, true), (48, true), (49, true), (50, true), (51, true), (52, true), (53, true), (54, true), (55, true), (56, true), (57, true), (58, true), (59, true), (60, true), (61, true), (62, true), (63, true), (64, true), (65, true)]) (fun w' => AddW w w' g b S sl x) (by kernel_rfl) rfl (by kernel_rfl) (by kernel_rfl) (⟨HH.out.1.1.drew, HH.out.1.2.1.drew, HH.out.1.2.2.drew⟩) rfl ?_
      intro KP RP TP hKP hTP hTP'
      simp only [List.append_eq, List.cons_append, List.nil_append, pick, nth]
      go_wp2_with (first
        | (apply SeqP.skip; rfl; simp only [Act.put, List.setIfInBounds_toArray, List.set_cons_zero, List.set_cons_succ])
        | (apply SeqP.call; rfl; rfl; (intro w2 hw; have hw := hTP _ hw; ((obtain ⟨⟨q0, q1, q2, q3, q4, q5⟩, ⟨r0, r1, r2, r3, r4⟩⟩ := FC _ hw)); go_simp; exact ⟨rfl, rfl⟩); (intro w2 hw; have hw := hTP _ hw; ((obtain ⟨⟨q0, q1, q2, q3, q4, q5⟩, ⟨r0, r1, r2, r3, r4⟩⟩ := FC _ hw)); (first | (go_at_call 52; refine (none_any g b.n _ (FC _ hw).2.2.2.2.1).mono ?_; rintro e w' ⟨rfl, rfl⟩; exact ⟨rfl, rfl⟩))); simp only [Act.put, List.setIfInBounds_toArray, List.set_cons_zero, List.set_cons_succ])
        | (apply SeqP.pure; rfl; (intro w2 hw; have hw := hTP _ hw; ((obtain ⟨⟨q0, q1, q2, q3, q4, q5⟩, ⟨r0, r1, r2, r3, r4⟩⟩ := FC _ hw)); go_simp; with_reducible rfl); simp only [Act.put, List.setIfInBounds_toArray, List.set_cons_zero, List.set_cons_succ])
        | (apply SeqP.split; rfl; rfl; all_goals (intro hc; simp only [hc]; try simp only [beq_iff_eq, decide_eq_true_eq, beq_eq_false_iff_ne, decide_eq_false_iff_not, bne_iff_ne, ne_eq, Bool.not_eq_true', Bool.not_eq_false', Int.not_le, Int.not_lt, bne_eq_false_iff_eq, Bool.or_eq_true, Bool.and_eq_true, Bool.or_eq_false_iff] at hc)))
      apply SeqP.nil
      refine hKP _ _ (hTP' _ (⟨HH.out.1.1.drew, HH.out.1.2.1.drew, HH.out.1.2.2.drew⟩)) ?_
      clear hKP hTP hTP'
      go_wp2_with fail
      go_ret
      exact add_no HNO.out ⟨sl, HH.out.1.2.2.drew, fun i hi => (HH.out.2.1 i hi).keep HH.out.1.1.drew⟩ (Kept.ofBelow HH.out.1.1.drew _ _)
    have e2 : (x.m.stream != b.stream) = false := by simpa using e2p
    have He2 := Lib.hid e2p
    clear e2p
    by_cases e3p : x.m.epoch = b.epoch
    case neg =>
      have e3 : (x.m.epoch != b.epoch) = true := by simpa using e3p
      clear e3p
      go_enter Try.func31, Try.ntmps31
      go_wp2_with fail
      refine wp_region_p ([(0, true), (1, true), (2, true), (3, true), (4, true), (5, true), (6, true), (7, true), (8, true), (9, true), (10, true), (11, true), (12, true), (13, true), (14, true), (15, true), (16, true), (17, true), (18, true), (19, true), (20, true), (21, true), (22, true), (23, true), (24, true), (25, true), (26, true), (27, true), (28, true), (29, true), (30, true), (31, true), (32, true), (33, true), (34, true), (35, true), (36, true), (37, true), (38, true), (39, true), (40, true), (41, true), (42, true), (43, true), (44, true), (45, true), (46, true), (47, true), (48, true), (49, true), (50, true), (51, true), (52, true), (53, true), (54, true), (55, true), (56, true), (57, true), (58, true), (59, true), (60, true), (61, true), (62, true), (63, true), (64, true), (65, true)]) (fun w' => AddW w w' g b S sl x) (by kernel_rfl) rfl (by kernel_rfl) (by kernel_rfl) (⟨HH.out.1.1.drew, HH.out.1.2.1.drew, HH.out.1.2.2.drew⟩) rfl ?_
      intro KP RP TP hKP hTP hTP'
      simp only [List.append_eq, List.cons_append, List.nil_append, pick, nth]
      go_wp2_with (first
        | (apply SeqP.skip; rfl; simp only [Act.put, List.setIfInBounds_toArray, List.set_cons_zero, List.set_cons_succ])
        | (apply SeqP.call; rfl; rfl; (intro w2 hw; have hw := hTP _ hw; ((obtain ⟨⟨q0, q1, q2, q3, q4, q5⟩, ⟨r0, r1, r2, r3, r4⟩⟩ := FC _ hw)); go_simp; exact ⟨rfl, rfl⟩); (intro w2 hw; have hw := hTP _ hw; ((obtain ⟨⟨q0, q1, q2, q3, q4, q5⟩, ⟨r0, r1, r2, r3, r4⟩⟩ := FC _ hw)); (first | (go_at_call 52; refine (none_any g b.n _ (FC _ hw).2.2.2.2.1).mono ?_; rintro e w' ⟨rfl, rfl⟩; exact ⟨rfl, rfl⟩))); simp only [Act.put, List.setIfInBounds_toArray, List.set_cons_zero, List.set_cons_succ])
        | (apply SeqP.pure; rfl; (intro w2 hw; have hw := hTP _ hw; ((obtain ⟨⟨q0, q1, q2, q3, q4, q5⟩, ⟨r0, r1, r2, r3, r4⟩⟩ := FC _ hw)); go_simp; with_reducible rfl); simp only [Act.put, List.setIfInBounds_toArray, List.set_cons_zero, List.set_cons_succ])
        | (apply SeqP.split; rfl; rfl; all_goals (intro hc; simp only [hc]; try simp only [beq_iff_eq, decide_eq_true_eq, beq_eq_false_iff_ne, decide_eq_false_iff_not, bne_iff_ne, ne_eq, Bool.not_eq_true', Bool.not_eq_false', Int.not_le, Int.not_lt, bne_eq_false_iff_eq, Bool.or_eq_true, Bool.and_eq_true, Bool.or_eq_false_iff] at hc)))
      apply SeqP.nil
      refine hKP _ _ (hTP' _ (⟨HH.out.1.1.drew, HH.out.1.2.1.drew, HH.out.1.2.2.drew⟩)) ?_
      clear hKP hTP hTP'
      go_wp2_with fail
      go_ret
      exact add_no HNO.out ⟨sl, HH.out.1.2.2.drew, fun i hi => (HH.out.2.1 i hi).keep HH.out.1.1.drew⟩ (Kept.ofBelow HH.out.1.1.drew _ _)
    have e3 : (x.m.epoch != b.epoch) = false := by simpa using e3p
    have He3 := Lib.hid e3p
    clear e3p
    by_cases e4p : x.m.to = b.site
    case neg =>
      have e4 : (x.m.to != b.site) = true := by simpa using e4p
      clear e4p
      go_enter Try.func31, Try.ntmps31
      go_wp2_with fail
      refine wp_region_p ([(0, true), (1, true), (2, true), (3, true), (4, true), (5, true), (6, true), (7, true), (8, true), (9, true), (10, true), (11, true), (12, true), (13, true), (14, true), (15, true), (16, true), (17, true), (18, true), (19, true), (20, true), (21, true), (22, true), (23, true), (24, true), (25, true), (26, true), (27, true), (28, true), (29, true), (30, true), (31, true), (32, true), (33, true), (34, true), (35, true), (36, true), (37, true), (38, true), (39, true), (40, true), (41, true), (42, true), (43, true), (44, true), (45, true), (46, true), (47, true), (48, true), (49, true), (50, true), (51, true), (52, true), (53, true), (54, true), (55, true), (56, true), (57, true), (58, true), (59, true), (60, true), (61, true), (62, true), (63, true), (64, true), (65, true)]) (fun w' => AddW w w' g b S sl x) (by kernel_rfl) rfl (by kernel_rfl) (by kernel_rfl) (⟨HH.out.1.1.drew, HH.out.1.2.1.drew, HH.out.1.2.2.drew⟩) rfl ?_
      intro KP RP TP hKP hTP hTP'
      simp only [List.append_eq, List.cons_append, List.nil_append, pick, nth]
      go_wp2_with (first
        | (apply SeqP.skip; rfl; simp only [Act.put, List.setIfInBounds_toArray, List.set_cons_zero, List.set_cons_succ])
        | (apply SeqP.call; rfl; rfl; (intro w2 hw; have hw := hTP _ hw; ((obtain ⟨⟨q0, q1, q2, q3, q4, q5⟩, ⟨r0, r1, r2, r3, r4⟩⟩ := FC _ hw)); go_simp; exact ⟨rfl, rfl⟩); (intro w2 hw; have hw := hTP _ hw; ((obtain ⟨⟨q0, q1, q2, q3, q4, q5⟩, ⟨r0, r1, r2, r3, r4⟩⟩ := FC _ hw)); (first | (go_at_call 52; refine (none_any g b.n _ (FC _ hw).2.2.2.2.1).mono ?_; rintro e w' ⟨rfl, rfl⟩; exact ⟨rfl, rfl⟩))); simp only [Act.put, List.setIfInBounds_toArray, List.set_cons_zero, List.set_cons_succ])
        | (apply SeqP.pure; rfl; (intro w2 hw; have hw := hTP _ hw; ((obtain ⟨⟨q0, q1, q2, q3, q4, q5⟩, ⟨r0, r1, r2, r3, r4⟩⟩ := FC _ hw)); go_simp; with_reducible rfl); simp only [Act.put, List.setIfInBounds_toArray, List.set_cons_zero, List.set_cons_succ])
        | (apply SeqP.split; rfl; rfl; all_goals (intro hc; simp only [hc]; try simp only [beq_iff_eq, decide_eq_true_eq, beq_eq_false_iff_ne, decide_eq_false_iff_not, bne_iff_ne, ne_eq, Bool.not_eq_true', Bool.not_eq_false', Int.not_le, Int.not_lt, bne_eq_false_iff_eq, Bool.or_eq_true, Bool.and_eq_true, Bool.or_eq_false_iff] at hc)))
      apply SeqP.nil
      refine hKP _ _ (hTP' _ (⟨HH.out.1.1.drew, HH.out.1.2.1.drew, HH.out.1.2.2.drew⟩)) ?_
      clear hKP hTP hTP'
      go_wp2_with fail
      go_ret
      exact add_no HNO.out ⟨sl, HH.out.1.2.2.drew, fun i hi => (HH.out.2.1 i hi).keep HH.out.1.1.drew⟩ (Kept.ofBelow HH.out.1.1.drew _ _)
    have e4 : (x.m.to != b.site) = false := by simpa using e4p
    have He4 := Lib.hid e4p
    clear e4p
    by_cases e5 : x.m.from_ < 0
    case pos =>
      have e5' : decide (x.m.from_ < 0) = true := by simpa using e5
      go_enter Try.func31, Try.ntmps31
      go_wp2_with fail
      refine wp_region_p ([(0, true), (1, true), (2, true), (3, true), (4, true), (5, true), (6, true), (7, true), (8, true), (9, true), (10, true), (11, true), (12, true), (13, true), (14, true), (15, true), (16, true), (17, true), (18, true), (19, true), (20, true), (21, true), (22, true), (23, true), (24, true), (25, true), (26, true), (27, true), (28, true), (29, true), (30, true), (31, true), (32, true), (33, true), (34, true), (35, true), (36, true), (37, true), (38, true), (39, true), (40, true), (41, true), (42, true), (43, true), (44, true), (45, true), (46, true), (47, true), (48, true), (49, true), (50, true), (51, true), (52, true), (53, true), (54, true), (55, true), (56, true), (57, true), (58, true), (59, true), (60, true), (61, true), (62, true), (63, true), (64, true), (65, true)]) (fun w' => AddW w w' g b S sl x) (by kernel_rfl) rfl (by kernel_rfl) (by kernel_rfl) (⟨HH.out.1.1.drew, HH.out.1.2.1.drew, HH.out.1.2.2.drew⟩) rfl ?_
      intro KP RP TP hKP hTP hTP'
      simp only [List.append_eq, List.cons_append, List.nil_append, pick, nth]
      go_wp2_with (first
        | (apply SeqP.skip; rfl; simp only [Act.put, List.setIfInBounds_toArray, List.set_cons_zero, List.set_cons_succ])
        | (apply SeqP.call; rfl; rfl; (intro w2 hw; have hw := hTP _ hw; ((obtain ⟨⟨q0, q1, q2, q3, q4, q5⟩, ⟨r0, r1, r2, r3, r4⟩⟩ := FC _ hw)); go_simp; exact ⟨rfl, rfl⟩); (intro w2 hw; have hw := hTP _ hw; ((obtain ⟨⟨q0, q1, q2, q3, q4, q5⟩, ⟨r0, r1, r2, r3, r4⟩⟩ := FC _ hw)); (first | (go_at_call 52; refine (none_any g b.n _ (FC _ hw).2.2.2.2.1).mono ?_; rintro e w' ⟨rfl, rfl⟩; exact ⟨rfl, rfl⟩))); simp only [Act.put, List.setIfInBounds_toArray, List.set_cons_zero, List.set_cons_succ])
        | (apply SeqP.pure; rfl; (intro w2 hw; have hw := hTP _ hw; ((obtain ⟨⟨q0, q1, q2, q3, q4, q5⟩, ⟨r0, r1, r2, r3, r4⟩⟩ := FC _ hw)); go_simp; with_reducible rfl); simp only [Act.put, List.setIfInBounds_toArray, List.set_cons_zero, List.set_cons_succ])
        | (apply SeqP.split; rfl; rfl; all_goals (intro hc; simp only [hc]; try simp only [beq_iff_eq, decide_eq_true_eq, beq_eq_false_iff_ne, decide_eq_false_iff_not, bne_iff_ne, ne_eq, Bool.not_eq_true', Bool.not_eq_false', Int.not_le, Int.not_lt, bne_eq_false_iff_eq, Bool.or_eq_true, Bool.and_eq_true, Bool.or_eq_false_iff] at hc)))
      apply SeqP.nil
      refine hKP _ _ (hTP' _ (⟨HH.out.1.1.drew, HH.out.1.2.1.drew, HH.out.1.2.2.drew⟩)) ?_
      clear hKP hTP hTP'
      go_wp2_with fail
      go_ret
      exact add_no HNO.out ⟨sl, HH.out.1.2.2.drew, fun i hi => (HH.out.2.1 i hi).keep HH.out.1.1.drew⟩ (Kept.ofBelow HH.out.1.1.drew _ _)
    have e5' : decide (x.m.from_ < 0) = false := by simpa using e5
    by_cases e6 : b.n ≤ x.m.from_
    case pos =>
      have e6' : decide (b.n ≤ x.m.from_) = true := by simpa using e6
      go_enter Try.func31, Try.ntmps31
      go_wp2_with fail
      refine wp_region_p ([(0, true), (1, true), (2, true), (3, true), (4, true), (5, true), (6, true), (7, true), (8, true), (9, true), (10, true), (11, true), (12, true), (13, true), (14, true), (15, true), (16, true), (17, true), (18, true), (19, true), (20, true), (21, true), (22, true), (23, true), (24, true), (25, true), (26, true), (27, true), (28, true), (29, true), (30, true), (31, true), (32, true), (33, true), (34, true), (35, true), (36, true), (37, true), (38, true), (39, true), (40, true), (41, true), (42, true), (43, true), (44, true), (45, true), (46, true), (47, true), (48, true), (49, true), (50, true), (51, true), (52, true), (53, true), (54, true), (55, true), (56, true), (57, true), (58, true), (59, true), (60, true), (61, true), (62, true), (63, true), (64, true), (65, true)]) (fun w' => AddW w w' g b S sl x) (by kernel_rfl) rfl (by kernel_rfl) (by kernel_rfl) (⟨HH.out.1.1.drew, HH.out.1.2.1.drew, HH.out.1.2.2.drew⟩) rfl ?_
      intro KP RP TP hKP hTP hTP'
      simp only [List.append_eq, List.cons_append, List.nil_append, pick, nth]
      go_wp2_with (first
        | (apply SeqP.skip; rfl; simp only [Act.put, List.setIfInBounds_toArray, List.set_cons_zero, List.set_cons_succ])
        | (apply SeqP.call; rfl; rfl; (intro w2 hw; have hw := hTP _ hw; ((obtain ⟨⟨q0, q1, q2, q3, q4, q5⟩, ⟨r0, r1, r2, r3, r4⟩⟩ := FC _ hw)); go_simp; exact ⟨rfl, rfl⟩); (intro w2 hw; have hw := hTP _ hw; ((obtain ⟨⟨q0, q1, q2, q3, q4, q5⟩, ⟨r0, r1, r2, r3, r4⟩⟩ := FC _ hw)); (first | (go_at_call 52; refine (none_any g b.n _ (FC _ hw).2.2.2.2.1).mono ?_; rintro e w' ⟨rfl, rfl⟩; exact ⟨rfl, rfl⟩))); simp only [Act.put, List.setIfInBounds_toArray, List.set_cons_zero, List.set_cons_succ])
        | (apply SeqP.pure; rfl; (intro w2 hw; have hw := hTP _ hw; ((obtain ⟨⟨q0, q1, q2, q3, q4, q5⟩, ⟨r0, r1, r2, r3, r4⟩⟩ := FC _ hw)); go_simp; with_reducible rfl); simp only [Act.put, List.setIfInBounds_toArray, List.set_cons_zero, List.set_cons_succ])
        | (apply SeqP.split; rfl; rfl; all_goals (intro hc; simp only [hc]; try simp only [beq_iff_eq, decide_eq_true_eq, beq_eq_false_iff_ne, decide_eq_false_iff_not, bne_iff_ne, ne_eq, Bool.not_eq_true', Bool.not_eq_false', Int.not_le, Int.not_lt, bne_eq_false_iff_eq, Bool.or_eq_true, Bool.and_eq_true, Bool.or_eq_false_iff] at hc)))
      apply SeqP.nil
      refine hKP _ _ (hTP' _ (⟨HH.out.1.1.drew, HH.out.1.2.1.drew, HH.out.1.2.2.drew⟩)) ?_
      clear hKP hTP hTP'
      go_wp2_with fail
      go_ret
      exact add_no HNO.out ⟨sl, HH.out.1.2.2.drew, fun i hi => (HH.out.2.1 i hi).keep HH.out.1.1.drew⟩ (Kept.ofBelow HH.out.1.1.drew _ _)
    obtain ⟨K, hK⟩ := Int.eq_ofNat_of_zero_le (show 0 ≤ x.m.from_ by omega)
    have hfr : x.m.from_.toNat = K := by omega
    rw [hK] at e5 e6 e5' FC
    have e6' : decide (b.n ≤ (K : Int)) = false := by simpa using e6
    have hK7 : K < 7 := by omega
    have e7 : (0 : Int) ≤ (K : Int) := by omega
    have e9 : (K : Int) < 7 := by omega
    have HK := Lib.hid (And.intro hK hfr)
    clear hK hfr
    cases hS : (S K).isSome with
    | true =>
      have FD : ∀ w', AddW w w' g b S sl x → (w'.cell? ⟨w.heap.size, 0, none⟩ = some (.int .i64 x.m.kind) ∧ w'.cell? ⟨w.heap.size, 1, none⟩ = some (.int .i64 (K : Int)) ∧ w'.cell? ⟨w.heap.size, 2, none⟩ = some (.int .i64 x.m.to) ∧ w'.cell? ⟨w.heap.size, 3, none⟩ = some (.int .i64 x.m.stream) ∧
          w'.cell? ⟨w.heap.size, 4, none⟩ = some (.int .i64 x.m.epoch) ∧ w'.cell? ⟨w.heap.size, 8, none⟩ = some (.int .i64 x.m.stamp)) ∧
          (w'.cell? ⟨g, 0, none⟩ = some (.int .i64 b.stream) ∧ w'.cell? ⟨g, 1, none⟩ = some (.int .i64 b.epoch) ∧ w'.cell? ⟨g, 2, none⟩ = some (.int .i64 b.site) ∧ w'.cell? ⟨g, 3, none⟩ = some (.int .i64 b.n) ∧ w'.cell? ⟨g, 4, none⟩ = some (.int .i64 b.stamp)) ∧ w'.cell? ⟨g, 5 + K, none⟩ = some (.bool true) := fun w' h => ⟨(FC w' h).1, (FC w' h).2, by have h7 := h.cells.2.2 K hK7; rw [hS] at h7; exact h7⟩
      clear FC hS
      go_enter Try.func31, Try.ntmps31
      go_wp2_with fail
      refine wp_region_p ([(0, true), (1, true), (2, true), (3, true), (4, true), (5, true), (6, true), (7, true), (8, true), (9, true), (10, true), (11, true), (12, true), (13, true), (14, true), (15, true), (16, true), (17, true), (18, true), (19, true), (20, true), (21, true), (22, true), (23, true), (24, true), (25, true), (26, true), (27, true), (28, true), (29, true), (30, true), (31, true), (32, true), (33, true), (34, true), (35, true), (36, true), (37, true), (38, true), (39, true), (40, true), (41, true), (42, true), (43, true), (44, true), (45, true), (46, true), (47, true), (48, true), (49, true), (50, true), (51, true), (52, true), (53, true), (54, true), (55, true), (56, true), (57, true), (58, true), (59, true), (60, true), (61, true), (62, true), (63, true), (64, true), (65, true)]) (fun w' => AddW w w' g b S sl x) (by kernel_rfl) rfl (by kernel_rfl) (by kernel_rfl) (⟨HH.out.1.1.drew, HH.out.1.2.1.drew, HH.out.1.2.2.drew⟩) rfl ?_
      intro KP RP TP hKP hTP hTP'
      simp only [List.append_eq, List.cons_append, List.nil_append, pick, nth]
      go_wp2_with (first
        | (apply SeqP.skip; rfl; simp only [Act.put, List.setIfInBounds_toArray, List.set_cons_zero, List.set_cons_succ])
        | (apply SeqP.call; rfl; rfl; (intro w2 hw; have hw := hTP _ hw; ((obtain ⟨⟨q0, q1, q2, q3, q4, q5⟩, ⟨r0, r1, r2, r3, r4⟩, t0⟩ := FD _ hw)); go_simp; exact ⟨rfl, rfl⟩); (intro w2 hw; have hw := hTP _ hw; ((obtain ⟨⟨q0, q1, q2, q3, q4, q5⟩, ⟨r0, r1, r2, r3, r4⟩, t0⟩ := FD _ hw)); (first | (go_at_call 52; refine (none_any g b.n _ (FD _ hw).2.1.2.2.2.1).mono ?_; rintro e w' ⟨rfl, rfl⟩; exact ⟨rfl, rfl⟩))); simp only [Act.put, List.setIfInBounds_toArray, List.set_cons_zero, List.set_cons_succ])
        | (apply SeqP.pure; rfl; (intro w2 hw; have hw := hTP _ hw; ((obtain ⟨⟨q0, q1, q2, q3, q4, q5⟩, ⟨r0, r1, r2, r3, r4⟩, t0⟩ := FD _ hw)); go_simp; with_reducible rfl); simp only [Act.put, List.setIfInBounds_toArray, List.set_cons_zero, List.set_cons_succ])
        | (apply SeqP.split; rfl; rfl; all_goals (intro hc; simp only [hc]; try simp only [beq_iff_eq, decide_eq_true_eq, beq_eq_false_iff_ne, decide_eq_false_iff_not, bne_iff_ne, ne_eq, Bool.not_eq_true', Bool.not_eq_false', Int.not_le, Int.not_lt, bne_eq_false_iff_eq, Bool.or_eq_true, Bool.and_eq_true, Bool.or_eq_false_iff] at hc)))
      apply SeqP.nil
      refine hKP _ _ (hTP' _ (⟨HH.out.1.1.drew, HH.out.1.2.1.drew, HH.out.1.2.2.drew⟩)) ?_
      clear hKP hTP hTP'
      go_wp2_with fail
      go_ret
      exact add_no HNO.out ⟨sl, HH.out.1.2.2.drew, fun i hi => (HH.out.2.1 i hi).keep HH.out.1.1.drew⟩ (Kept.ofBelow HH.out.1.1.drew _ _)
    | false =>
      have FD : ∀ w', AddW w w' g b S sl x → (w'.cell? ⟨w.heap.size, 0, none⟩ = some (.int .i64 x.m.kind) ∧ w'.cell? ⟨w.heap.size, 1, none⟩ = some (.int .i64 (K : Int)) ∧ w'.cell? ⟨w.heap.size, 2, none⟩ = some (.int .i64 x.m.to) ∧ w'.cell? ⟨w.heap.size, 3, none⟩ = some (.int .i64 x.m.stream) ∧
          w'.cell? ⟨w.heap.size, 4, none⟩ = some (.int .i64 x.m.epoch) ∧ w'.cell? ⟨w.heap.size, 8, none⟩ = some (.int .i64 x.m.stamp)) ∧
          (w'.cell? ⟨g, 0, none⟩ = some (.int .i64 b.stream) ∧ w'.cell? ⟨g, 1, none⟩ = some (.int .i64 b.epoch) ∧ w'.cell? ⟨g, 2, none⟩ = some (.int .i64 b.site) ∧ w'.cell? ⟨g, 3, none⟩ = some (.int .i64 b.n) ∧ w'.cell? ⟨g, 4, none⟩ = some (.int .i64 b.stamp)) ∧ w'.cell? ⟨g, 5 + K, none⟩ = some (.bool false) := fun w' h => ⟨(FC w' h).1, (FC w' h).2, by have h7 := h.cells.2.2 K hK7; rw [hS] at h7; exact h7⟩
      have e8 : (x.m.stamp != b.stamp) = true := by
        by_cases h : x.m.stamp = b.stamp
        · exact absurd ⟨He1.out, He2.out, He3.out, He4.out, by have := HK.out.1; omega, by have := HK.out.1; omega, by rw [HK.out.2]; simpa using hS, h⟩ HP.out
        · simpa using h
      clear FC hS
      go_enter Try.func31, Try.ntmps31
      go_wp2_with fail
      refine wp_region_p ([(0, true), (1, true), (2, true), (3, true), (4, true), (5, true), (6, true), (7, true), (8, true), (9, true), (10, true), (11, true), (12, true), (13, true), (14, true), (15, true), (16, true), (17, true), (18, true), (19, true), (20, true), (21, true), (22, true), (23, true), (24, true), (25, true), (26, true), (27, true), (28, true), (29, true), (30, true), (31, true), (32, true), (33, true), (34, true), (35, true), (36, true), (37, true), (38, true), (39, true), (40, true), (41, true), (42, true), (43, true), (44, true), (45, true), (46, true), (47, true), (48, true), (49, true), (50, true), (51, true), (52, true), (53, true), (54, true), (55, true), (56, true), (57, true), (58, true), (59, true), (60, true), (61, true), (62, true), (63, true), (64, true), (65, true)]) (fun w' => AddW w w' g b S sl x) (by kernel_rfl) rfl (by kernel_rfl) (by kernel_rfl) (⟨HH.out.1.1.drew, HH.out.1.2.1.drew, HH.out.1.2.2.drew⟩) rfl ?_
      intro KP RP TP hKP hTP hTP'
      simp only [List.append_eq, List.cons_append, List.nil_append, pick, nth]
      go_wp2_with (first
        | (apply SeqP.skip; rfl; simp only [Act.put, List.setIfInBounds_toArray, List.set_cons_zero, List.set_cons_succ])
        | (apply SeqP.call; rfl; rfl; (intro w2 hw; have hw := hTP _ hw; ((obtain ⟨⟨q0, q1, q2, q3, q4, q5⟩, ⟨r0, r1, r2, r3, r4⟩, t0⟩ := FD _ hw)); go_simp; exact ⟨rfl, rfl⟩); (intro w2 hw; have hw := hTP _ hw; ((obtain ⟨⟨q0, q1, q2, q3, q4, q5⟩, ⟨r0, r1, r2, r3, r4⟩, t0⟩ := FD _ hw)); (first | (go_at_call 52; refine (none_any g b.n _ (FD _ hw).2.1.2.2.2.1).mono ?_; rintro e w' ⟨rfl, rfl⟩; exact ⟨rfl, rfl⟩))); simp only [Act.put, List.setIfInBounds_toArray, List.set_cons_zero, List.set_cons_succ])
        | (apply SeqP.pure; rfl; (intro w2 hw; have hw := hTP _ hw; ((obtain ⟨⟨q0, q1, q2, q3, q4, q5⟩, ⟨r0, r1, r2, r3, r4⟩, t0⟩ := FD _ hw)); go_simp; with_reducible rfl); simp only [Act.put, List.setIfInBounds_toArray, List.set_cons_zero, List.set_cons_succ])
        | (apply SeqP.split; rfl; rfl; all_goals (intro hc; simp only [hc]; try simp only [beq_iff_eq, decide_eq_true_eq, beq_eq_false_iff_ne, decide_eq_false_iff_not, bne_iff_ne, ne_eq, Bool.not_eq_true', Bool.not_eq_false', Int.not_le, Int.not_lt, bne_eq_false_iff_eq, Bool.or_eq_true, Bool.and_eq_true, Bool.or_eq_false_iff] at hc)))
      apply SeqP.nil
      refine hKP _ _ (hTP' _ (⟨HH.out.1.1.drew, HH.out.1.2.1.drew, HH.out.1.2.2.drew⟩)) ?_
      clear hKP hTP hTP'
      go_wp2_with fail
      go_ret
      exact add_no HNO.out ⟨sl, HH.out.1.2.2.drew, fun i hi => (HH.out.2.1 i hi).keep HH.out.1.1.drew⟩ (Kept.ofBelow HH.out.1.1.drew _ _)
end Go.Proofs.Ytbicefilfhcgoaa

set_option linter.unusedSimpArgs false
set_option linter.unusedVariables false
set_option maxRecDepth 100000
namespace Go.Proofs.Ytbicefilfhcgoaa

def keyM (m : MailS) : Nat := m.from_.toNat
/-- What does not hang on who has promised. -/
def stOk (b : BegS) (m : MailS) : Prop := m.kind = 2 ∧ m.stream = b.stream ∧ m.epoch = b.epoch ∧ m.to = b.site ∧ 0 ≤ m.from_ ∧ m.from_ < b.n ∧ m.stamp = b.stamp ∧ mayR m.reg = true ∧ m.view < b.epoch
theorem addOk_iff {b : BegS} {S : Slots} {m : MailS} : addOk b S m ↔ stOk b m ∧ S (keyM m) = none := by
  unfold addOk addPre stOk keyM
  constructor
  · rintro ⟨⟨a, b, c, d, e, f, g, h⟩, i, j⟩
    exact ⟨⟨a, b, c, d, e, f, h, i, j⟩, g⟩
  · rintro ⟨⟨a, b, c, d, e, f, h, i, j⟩, g⟩
    exact ⟨⟨a, b, c, d, e, f, g, h⟩, i, j⟩
theorem addOk_n {b : BegS} {S : Slots} {m : MailS} (h : addOk b S m) : 0 ≤ m.from_ ∧ m.from_ < b.n := ⟨h.1.2.2.2.2.1, h.1.2.2.2.2.2.1⟩
theorem addS_yes {b : BegS} {S : Slots} {m : MailS} (h : addOk b S m) : addS b S m = put7 S (keyM m) m.reg := if_pos h
theorem addS_no {b : BegS} {S : Slots} {m : MailS} (h : ¬ addOk b S m) : addS b S m = S := if_neg h
theorem addS_twice {b : BegS} {S : Slots} {m : MailS} (h : addOk b S m) : ¬ addOk b (addS b S m) m := fun h2 => by
  have := (addOk_iff.1 h2).2
  rw [addS_yes h, put7_at] at this
  cases this
/-- These have come, on top of what was there. -/
def Puts (S0 : Slots) (cs : List MailS) (S : Slots) : Prop := (∀ m ∈ cs, S (keyM m) = some m.reg) ∧ ∀ k, (∀ m ∈ cs, keyM m ≠ k) → S k = S0 k
theorem puts_nil (S0 : Slots) : Puts S0 [] S0 := ⟨by simp, fun _ _ => rfl⟩
theorem puts_put {S0 S : Slots} {cs : List MailS} {m : MailS} (h : Puts S0 cs S) (hn : S (keyM m) = none) : Puts S0 (cs ++ [m]) (put7 S (keyM m) m.reg) := by
  refine ⟨fun x hx => ?_, fun k hk => ?_⟩
  · rcases List.mem_append.1 hx with hx | hx
    · have h1 := h.1 x hx
      rw [put7_far]
      · exact h1
      · intro e
        rw [e, hn] at h1
        cases h1
    · obtain rfl : x = m := by simpa using hx
      exact put7_at _ _ _
  · have h1 : k ≠ keyM m := fun e => hk m (by simp) e.symm
    rw [put7_far S _ h1]
    exact h.2 k (fun x hx => hk x (by simp [hx]))
theorem puts_one {S0 S T : Slots} {cs ds : List MailS} (h : Puts S0 cs S) (h' : Puts S0 ds T) (he : ∀ m, m ∈ cs ↔ m ∈ ds) : S = T := funext fun k => by
  by_cases hk : ∃ m ∈ cs, keyM m = k
  · obtain ⟨m, hm, rfl⟩ := hk
    rw [h.1 m hm, h'.1 m ((he m).1 hm)]
  · rw [h.2 k (fun m hm e => hk ⟨m, hm, e⟩), h'.2 k (fun m hm e => hk ⟨m, (he m).2 hm, e⟩)]
/-- Those that have counted. -/
def Cnt (b : BegS) (S0 : Slots) (cs : List MailS) (S : Slots) : Prop := Puts S0 cs S ∧ cs.Pairwise (fun x y => keyM x ≠ keyM y) ∧ ∀ m ∈ cs, stOk b m ∧ S0 (keyM m) = none
theorem cnt_nil (b : BegS) (S0 : Slots) : Cnt b S0 [] S0 := ⟨puts_nil S0, List.Pairwise.nil, by simp⟩
theorem cnt_add {b : BegS} {S0 S : Slots} {cs : List MailS} {m : MailS} (h : Cnt b S0 cs S) (ha : addOk b S m) : Cnt b S0 (cs ++ [m]) (addS b S m) := by
  have hs := addOk_iff.1 ha
  have hne : ∀ x ∈ cs, keyM x ≠ keyM m := fun x hx e => by
    have := h.1.1 x hx
    rw [e, hs.2] at this
    cases this
  rw [addS_yes ha]
  refine ⟨puts_put h.1 hs.2, ?_, fun x hx => ?_⟩
  · rw [List.pairwise_append]
    refine ⟨h.2.1, by simp, fun x hx y hy => ?_⟩
    obtain rfl : y = m := by simpa using hy
    exact hne x hx
  · rcases List.mem_append.1 hx with hx | hx
    · exact h.2.2 x hx
    · obtain rfl : x = m := by simpa using hx
      refine ⟨hs.1, ?_⟩
      rw [← h.1.2 (keyM x) hne]
      exact hs.2
/-- Backwards: the one at place i counts behind those that stand behind it. -/
theorem cnt_back {b : BegS} {S0 S T : Slots} {cs : List MailS} {m : MailS} {i : Nat} (h : Cnt b S0 cs S) (hm : cs[i]? = some m) (hT : Puts S0 (cs.drop (i + 1)) T) : addOk b T m ∧ Puts S0 (cs.drop i) (addS b T m) := by
  have hi := (List.getElem?_eq_some_iff.1 hm)
  obtain ⟨hil, hie⟩ := hi
  have hd : cs.drop i = m :: cs.drop (i + 1) := by rw [List.drop_eq_getElem_cons hil, hie]
  have hmem := List.mem_of_getElem? hm
  have hne : ∀ x ∈ cs.drop (i + 1), keyM x ≠ keyM m := fun x hx e => by
    obtain ⟨k, hk⟩ := List.getElem?_of_mem hx
    rw [List.getElem?_drop] at hk
    obtain ⟨hkl, hke⟩ := List.getElem?_eq_some_iff.1 hk
    have := List.pairwise_iff_getElem.1 h.2.1 i (i + 1 + k) hil hkl (by omega)
    rw [hie, hke] at this
    exact this e.symm
  have ha : addOk b T m := addOk_iff.2 ⟨(h.2.2 m hmem).1, by rw [hT.2 _ hne]; exact (h.2.2 m hmem).2⟩
  refine ⟨ha, ?_⟩
  rw [addS_yes ha]
  have hp := puts_put hT (addOk_iff.1 ha).2
  rw [hd]
  refine ⟨fun x hx => hp.1 x ?_, fun k hk => hp.2 k (fun x hx => hk x ?_)⟩
  · rcases List.mem_cons.1 hx with rfl | hx
    · simp
    · simp [hx]
  · rcases List.mem_append.1 hx with hx | hx
    · simp [hx]
    · obtain rfl : x = m := by simpa using hx
      simp
theorem cnt_end {b : BegS} {S0 S T : Slots} {cs : List MailS} (h : Cnt b S0 cs S) (hT : Puts S0 cs T) : S = T := puts_one h.1 hT (fun _ => Iff.rfl)
/-- It had not been counted. -/
theorem cnt_fresh {b : BegS} {S0 S : Slots} {cs : List MailS} {m : MailS} (h : Cnt b S0 cs S) (ha : addOk b S m) : ∀ x ∈ cs, keyM x ≠ keyM m := fun x hx e => by
  have := h.1.1 x hx
  rw [e, (addOk_iff.1 ha).2] at this
  cases this

/-- What is asked of one site. -/
def askOf (b : BegS) (i : Int) : MailS := ⟨1, b.site, i, b.stream, b.epoch, 0, 0, 0, b.stamp, []⟩
def askTo (b : BegS) (j : Nat) : List MailS := ((List.range j).filter fun (i : Nat) => decide ((i : Int) ≠ b.site)).map fun (i : Nat) => askOf b (i : Int)
theorem askTo_yes {b : BegS} {j : Nat} (h : (j : Int) ≠ b.site) : askTo b (j + 1) = askTo b j ++ [askOf b j] := by
  unfold askTo
  rw [List.range_succ, List.filter_append]
  simp [h]
theorem askTo_no {b : BegS} {j : Nat} (h : (j : Int) = b.site) : askTo b (j + 1) = askTo b j := by
  unfold askTo
  rw [List.range_succ, List.filter_append]
  simp [h]
theorem askTo_len (b : BegS) : ∀ j : Nat, ((askTo b j).length : Int) = if 0 ≤ b.site ∧ b.site < j then (j : Int) - 1 else j
  | 0 => by
    rw [if_neg (by omega)]
    rfl
  | j + 1 => by
    have ih := askTo_len b j
    by_cases h : (j : Int) = b.site
    · rw [askTo_no h, ih, if_neg (by omega), if_pos (by omega)]
      omega
    · rw [askTo_yes h, List.length_append]
      simp only [List.length_cons, List.length_nil]
      by_cases h2 : 0 ≤ b.site ∧ b.site < j
      · rw [if_pos h2] at ih
        rw [if_pos (by omega)]
        omega
      · rw [if_neg h2] at ih
        rw [if_neg (by omega)]
        omega
/-- The k-th one that is asked. -/
theorem askTo_at {b : BegS} {n : Nat} (h0 : 0 ≤ b.site) (hn : b.site < n) : ∀ (k : Nat), k + 1 < n → (askTo b n)[k]? = some (askOf b (if (k : Int) < b.site then (k : Int) else k + 1)) := by
  have key : ∀ (j : Nat) (k : Nat) (x : MailS), (askTo b j)[k]? = some x → x = askOf b (if (k : Int) < b.site then (k : Int) else k + 1) := by
    intro j
    induction j with
    | zero => intro k x h; simp [askTo] at h
    | succ j ih =>
      intro k x h
      by_cases hj : (j : Int) = b.site
      · rw [askTo_no hj] at h
        exact ih k x h
      · rw [askTo_yes hj] at h
        rcases Nat.lt_or_ge k (askTo b j).length with hk | hk
        · rw [List.getElem?_append_left hk] at h
          exact ih k x h
        · rw [List.getElem?_append_right hk] at h
          have hk1 := (List.getElem?_eq_some_iff.1 h).1
          simp only [List.length_cons, List.length_nil] at hk1
          have hk2 : k = (askTo b j).length := by omega
          rw [hk2, Nat.sub_self] at h
          cases h
          have hl := askTo_len b j
          by_cases h2 : 0 ≤ b.site ∧ b.site < j
          · rw [if_pos h2] at hl
            rw [if_neg (by omega)]
            congr 1
            omega
          · rw [if_neg h2] at hl
            rw [if_pos (by omega)]
            congr 1
            omega
  intro k hk
  have hl := askTo_len b n
  rw [if_pos ⟨h0, hn⟩] at hl
  have hlt : k < (askTo b n).length := by omega
  rw [List.getElem?_eq_getElem hlt]
  exact congrArg some (key n k _ (List.getElem?_eq_getElem hlt))

/-- A log that begins with these. -/
theorem best_in {S : Slots} {k : Nat} {r : RegS} (hk : k < 7) (hS : S k = some r) : ∃ q, (listTo S 7)[bestAt S]? = some q ∧ bestLog S = q.log ∧ r.view ≤ q.view ∧ ∃ i, i < 7 ∧ S i = some q := by
  have hm : ((k : Int), r) ∈ pairs S := mem_pairs.2 ⟨k, hk, rfl, hS⟩
  have hl : 0 < (listTo S 7).length := by
    rw [← pairs_len]
    exact List.length_pos_of_mem hm
  obtain ⟨p, h1, h2, h3⟩ := bestAt_is hl
  have h4 := h3.2 _ hm
  obtain ⟨pi, pr⟩ := p
  unfold BetterD at h4
  simp only at h4
  obtain ⟨i, hi, _, hSi⟩ := mem_pairs.1 h3.1
  refine ⟨pr, h2, ?_, by omega, i, hi, hSi⟩
  unfold bestLog
  rw [h2]
  rfl
end Go.Proofs.Ytbicefilfhcgoaa

set_option linter.unusedSimpArgs false
set_option linter.unusedVariables false
set_option maxRecDepth 100000
namespace Go.Proofs.Ytbicefilfhcgoaa
open Go Go.RowKit Go.Sq Go.Wd Go.Arch

theorem viewR_no {r : RegS} {x : RecS} (h : ¬ ((1 ≤ x.epoch ∧ r.prom ≤ x.epoch ∧ x.epoch ≤ 1048576 ∧ x.from_ = fromR r x) ∧ okLog (logR r x) x.epoch = true ∧ r.log.take r.com.toNat <+: logR r x)) : viewR r x = none := by
  unfold viewR; rw [if_neg h]
theorem viewR_yes {r : RegS} {x : RecS} (h : (1 ≤ x.epoch ∧ r.prom ≤ x.epoch ∧ x.epoch ≤ 1048576 ∧ x.from_ = fromR r x) ∧ okLog (logR r x) x.epoch = true ∧ r.log.take r.com.toNat <+: logR r x) :
    viewR r x = some ⟨x.epoch, x.epoch, logR r x, r.com⟩ := by
  unfold viewR; rw [if_pos h]

/-- What 'viewed' tells. -/
def ViewP (A : Option Addr) (r : RegS) (x : RecS) (w : World) (e : Ending) (w' : World) : Prop :=
  ∃ sl : SlcE, e = .returned (.tuple #[.slice sl.1 sl.2.1 sl.2.2, .bool (viewR r x).isSome]) ∧ (∀ a, viewR r x = some a → LogAt w' w'.heap.size sl a.log ∧ (sl.1 = A ∨ ∃ g, sl.1 = some ⟨g, 0, none⟩ ∧ w.heap.size ≤ g)) ∧ Below w.heap.size w w'
theorem ViewP.no {A : Option Addr} {r : RegS} {x : RecS} {w w' : World} {e : Ending} (h : viewR r x = none) (sl : SlcE) (he : e = .returned (.tuple #[.slice sl.1 sl.2.1 sl.2.2, .bool false])) (hb : Below w.heap.size w w') : ViewP A r x w e w' := by
  refine ⟨sl, by rw [h]; exact he, fun a ha => ?_, hb⟩
  rw [h] at ha
  cases ha

set_option maxHeartbeats 8000000 in
theorem viewed_any (r : RegS) (sl : SlcE) (x : RecV) (w : World) (hm : mayR r = true) (hl : LogAt w w.heap.size sl r.log) (hx : LogAt w w.heap.size x.es x.ents) (hx2 : x.ents.length ≤ 1000) :
    Calls Try.prog 46 #[.agg (rgv r sl).toArray, .agg (rcv x).toArray] w (ViewP sl.1 r x.s w) := by
  obtain ⟨⟨m1, m2, m3⟩, m4, m5, m6⟩ := (mayR_iff r).1 hm
  have m64 := ((okLog_iff _ _).1 m4).1
  clear m4 hm
  obtain ⟨p, v, lg, k⟩ := r
  obtain ⟨A, n, c⟩ := sl
  obtain rfl : n = lg.length := hl.1
  obtain ⟨kd, st, ep, vw, fr, ln, ⟨B, nb, d⟩, es, ⟨F, nf, cf⟩⟩ := x
  obtain rfl : nb = es.length := hx.1
  dsimp only at m1 m2 m3 m5 m6 m64 hx2
  obtain ⟨kn, rfl⟩ : ∃ kn : Nat, k = kn := ⟨k.toNat, by omega⟩
  have hlc : lg.length ≤ c := hl.2.1
  have hc2 : c ≤ 9223372036854775807 := hl.2.2.1
  have hkc : kn ≤ c := by omega
  have hw0 : Below w.heap.size w ((w.alloc (.cells (rgv ⟨p, v, lg, kn⟩ (A, lg.length, c)).toArray 24)).alloc (.cells (rcv ⟨kd, st, ep, vw, fr, ln, (B, es.length, d), es, (F, nf, cf)⟩).toArray 27)) := ((Below.refl _ _).alloc (Nat.le_refl _) _).alloc (by simp) _
  have B0 := (Blk.new w 24 (rgv ⟨p, v, lg, kn⟩ (A, lg.length, c))).alloc (.cells (rcv ⟨kd, st, ep, vw, fr, ln, (B, es.length, d), es, (F, nf, cf)⟩).toArray 27)
  have B1 := Blk.new1 w (.cells (rgv ⟨p, v, lg, kn⟩ (A, lg.length, c)).toArray 24) 27 (rcv ⟨kd, st, ep, vw, fr, ln, (B, es.length, d), es, (F, nf, cf)⟩)
  unfold rgv rcv at hw0 B0 B1
  have HH := Lib.hid (And.intro hw0 (And.intro B0 (And.intro B1 (And.intro (hl.keep hw0) (hx.keep hw0)))))
  clear hw0 B0 B1 hl hx
  unfold rgv rcv
  by_cases a1 : 1 ≤ ep
  case neg =>
    have HN := Lib.hid (viewR_no (r := ⟨p, v, lg, kn⟩) (x := ⟨kd, st, ep, vw, fr, ln, es⟩) (fun h => a1 h.1.1))
    go_enter Try.func46, Try.ntmps46
    go_wp2_with fail
    go_ret2
    exact ViewP.no HN.out (none, 0, 0) rfl HH.out.1
  by_cases a2 : p ≤ ep
  case neg =>
    have HN := Lib.hid (viewR_no (r := ⟨p, v, lg, kn⟩) (x := ⟨kd, st, ep, vw, fr, ln, es⟩) (fun h => a2 h.1.2.1))
    go_enter Try.func46, Try.ntmps46
    go_wp2_with fail
    go_ret2
    exact ViewP.no HN.out (none, 0, 0) rfl HH.out.1
  by_cases a3 : ep ≤ 1048576
  case neg =>
    have HN := Lib.hid (viewR_no (r := ⟨p, v, lg, kn⟩) (x := ⟨kd, st, ep, vw, fr, ln, es⟩) (fun h => a3 h.1.2.2.1))
    go_enter Try.func46, Try.ntmps46
    go_wp2_with fail
    go_ret2
    exact ViewP.no HN.out (none, 0, 0) rfl HH.out.1
  by_cases a4 : 0 ≤ fr
  case neg =>
    have HN := Lib.hid (viewR_no (r := ⟨p, v, lg, kn⟩) (x := ⟨kd, st, ep, vw, fr, ln, es⟩) (fun h => a4 (by have := h.1.2.2.2; dsimp only at this; omega)))
    go_enter Try.func46, Try.ntmps46
    go_wp2_with fail
    go_ret2
    exact ViewP.no HN.out (none, 0, 0) rfl HH.out.1
  have hfl : fromR ⟨p, v, lg, kn⟩ ⟨kd, st, ep, vw, fr, ln, es⟩ ≤ lg.length := by unfold fromR; split <;> simp
  by_cases a5 : fr ≤ (lg.length : Int)
  case neg =>
    have HN := Lib.hid (viewR_no (r := ⟨p, v, lg, kn⟩) (x := ⟨kd, st, ep, vw, fr, ln, es⟩) (fun h => a5 (by have := h.1.2.2.2; dsimp only at this; omega)))
    clear hfl
    go_enter Try.func46, Try.ntmps46
    go_wp2_with fail
    go_ret2
    exact ViewP.no HN.out (none, 0, 0) rfl HH.out.1
  obtain ⟨fn, rfl⟩ : ∃ fn : Nat, fr = fn := ⟨fr.toNat, by omega⟩
  have hF : (v < ep → fromR ⟨p, v, lg, kn⟩ ⟨kd, st, ep, vw, fn, ln, es⟩ = 0) ∧ (ep = v → fromR ⟨p, v, lg, kn⟩ ⟨kd, st, ep, vw, fn, ln, es⟩ = lg.length) := by
    unfold fromR
    exact ⟨fun h => by rw [if_neg (by show ¬ ep = v; omega)], fun h => by rw [if_pos h]⟩
  by_cases b1 : v < ep ∧ 0 < fn
  case pos =>
    have HN := Lib.hid (viewR_no (r := ⟨p, v, lg, kn⟩) (x := ⟨kd, st, ep, vw, fn, ln, es⟩) (fun h => by have h1 := h.1.2.2.2; rw [hF.1 b1.1] at h1; dsimp only at h1; omega))
    obtain ⟨b2, b3⟩ := b1
    have b4 : (0 : Int) < (fn : Int) := by omega
    clear hF hfl
    go_enter Try.func46, Try.ntmps46
    go_wp2_with fail
    go_ret2
    exact ViewP.no HN.out (none, 0, 0) rfl HH.out.1
  by_cases b5 : ep = v ∧ fn < lg.length
  case pos =>
    have HN := Lib.hid (viewR_no (r := ⟨p, v, lg, kn⟩) (x := ⟨kd, st, ep, vw, fn, ln, es⟩) (fun h => by have h1 := h.1.2.2.2; rw [hF.2 b5.1] at h1; dsimp only at h1; omega))
    obtain ⟨b2, b3⟩ := b5
    clear hF hfl b1
    subst b2
    have b4 : ¬ ep < ep := by omega
    go_enter Try.func46, Try.ntmps46
    go_wp2_with fail
    go_ret2
    exact ViewP.no HN.out (none, 0, 0) rfl HH.out.1
  have hfr : fromR ⟨p, v, lg, kn⟩ ⟨kd, st, ep, vw, fn, ln, es⟩ = fn := by
    by_cases h : v < ep
    · rw [hF.1 h]; have : ¬ 0 < fn := fun h' => b1 ⟨h, h'⟩; omega
    · have he : ep = v := by omega
      rw [hF.2 he]; have : ¬ fn < lg.length := fun h' => b5 ⟨he, h'⟩; omega
  have hL : logR ⟨p, v, lg, kn⟩ ⟨kd, st, ep, vw, fn, ln, es⟩ = lg.take fn ++ es := by unfold logR; rw [hfr]
  have hfn : fn ≤ lg.length := by omega
  have hV := fun (h1 : okLog (lg.take fn ++ es) ep = true) (h2 : lg.take kn <+: lg.take fn ++ es) => viewR_yes (r := ⟨p, v, lg, kn⟩) (x := ⟨kd, st, ep, vw, fn, ln, es⟩) ⟨⟨a1, a2, a3, by rw [hfr]⟩, by rw [hL]; exact h1, by rw [hL]; exact h2⟩
  have hN := fun (h : ¬ (okLog (lg.take fn ++ es) ep = true ∧ lg.take kn <+: lg.take fn ++ es)) => viewR_no (r := ⟨p, v, lg, kn⟩) (x := ⟨kd, st, ep, vw, fn, ln, es⟩) (fun hh => h (by have := hh.2; rw [hL] at this; exact this))
  rw [hL] at hV
  have HV := Lib.hid (And.intro hV hN)
  obtain ⟨⟨A1, n1, c1⟩, w2, hrun, hLA, hb2, hwh⟩ := app_full (lg.take fn) es A B d ((w.alloc (.cells #[.int .i64 p, .int .i64 v, .slice A lg.length c, .int .i64 kn] 24)).alloc (.cells #[.int .i64 kd, .int .i64 st, .int .i64 ep, .int .i64 vw, .int .i64 fn, .int .i64 ln, .slice B es.length d, .slice F nf cf] 27)).drew
    (HH.out.2.2.2.1.2.2.2.take fn) HH.out.2.2.2.2.2.2.2 (by rw [List.length_take]; omega)
  rw [List.length_take, Nat.min_eq_left hfn] at hrun
  have hln : (lg.take fn ++ es).length = fn + es.length := by rw [List.length_append, List.length_take, Nat.min_eq_left hfn]
  obtain rfl : n1 = fn + es.length := hLA.1.trans hln
  dsimp only at hrun
  have hwh' : A1 = A ∨ ∃ g, A1 = some ⟨g, 0, none⟩ ∧ w.heap.size ≤ g := hwh.imp id (fun ⟨g, h1, h2⟩ => ⟨g, h1, Nat.le_trans (by simp; omega) h2⟩)
  have HWH := Lib.hid hwh'
  have HL := Lib.hid (And.intro hLA hb2)
  clear hwh hwh' hLA hb2 hV hN hL hfr hF hfl
  have hfc : fn ≤ c := by omega
  have e1 : ¬ (v < ep ∧ (0 : Int) < (fn : Int)) := fun h => b1 ⟨h.1, by omega⟩
  have e2 : ¬ (ep = v ∧ (fn : Int) < (lg.length : Int)) := fun h => b5 ⟨h.1, by omega⟩
  have hcases : (v < ep ∧ ¬ (0 : Int) < (fn : Int) ∧ (ep == v) = false) ∨ (¬ v < ep ∧ (ep == v) = true ∧ ¬ (fn : Int) < (lg.length : Int)) := by
    by_cases h : v < ep
    · exact .inl ⟨h, fun h' => e1 ⟨h, h'⟩, by rw [beq_eq_false_iff_ne]; omega⟩
    · have he : ep = v := by omega
      exact .inr ⟨h, by rw [beq_iff_eq]; exact he, fun h' => e2 ⟨he, h'⟩⟩
  clear b1 b5 e1 e2
  rcases hcases with ⟨f1, f2, f3⟩ | ⟨f1, f2, f3⟩
  all_goals
    go_enter Try.func46, Try.ntmps46
    go_wp2_with fail
    refine wp_region_p ([(0, true), (1, true), (2, true), (3, true), (4, true), (5, true), (6, true), (7, true), (8, true), (9, false), (10, true)]) (fun w' => Below w.heap.size w w' ∧ Blk w' w.heap.size 24 [.int .i64 p, .int .i64 v, .slice A lg.length c, .int .i64 kn] ∧ Blk w' (w.heap.size + 1) 27 [.int .i64 kd, .int .i64 st, .int .i64 ep, .int .i64 vw, .int .i64 fn, .int .i64 ln, .slice B es.length d, .slice F nf cf]) (by kernel_rfl) rfl (by kernel_rfl) (by kernel_rfl) (⟨HH.out.1.drew, HH.out.2.1.drew, HH.out.2.2.1.drew⟩) rfl ?_
    intro KP RP TP hKP hTP hTP'
    simp only [pick, nth]
    go_wp2_with (first
      | (apply SeqP.skip; rfl; simp only [Act.put, List.setIfInBounds_toArray, List.set_cons_zero, List.set_cons_succ])
      | (apply SeqP.call; rfl; rfl; (intro w2 hw; have hw := hTP _ hw; ((have r2 := hw.2.1.cell 2; have x4 := hw.2.2.cell 4; have x6 := hw.2.2.cell 6; simp at r2 x4 x6)); go_simp; exact ⟨rfl, rfl⟩); (intro w2 hw; have hw := hTP _ hw; ((have r2 := hw.2.1.cell 2; have x4 := hw.2.2.cell 4; have x6 := hw.2.2.cell 6; simp at r2 x4 x6)); (first | fail)); simp only [Act.put, List.setIfInBounds_toArray, List.set_cons_zero, List.set_cons_succ])
      | (apply SeqP.pure; rfl; (intro w2 hw; have hw := hTP _ hw; ((have r2 := hw.2.1.cell 2; have x4 := hw.2.2.cell 4; have x6 := hw.2.2.cell 6; simp at r2 x4 x6)); go_simp; with_reducible rfl); simp only [Act.put, List.setIfInBounds_toArray, List.set_cons_zero, List.set_cons_succ])
      | (apply SeqP.split; rfl; rfl; all_goals (intro hc; simp only [hc]; try simp only [beq_iff_eq, decide_eq_true_eq, beq_eq_false_iff_ne, decide_eq_false_iff_not, bne_iff_ne, ne_eq, Bool.not_eq_true', Bool.not_eq_false', Int.not_le, Int.not_lt, bne_eq_false_iff_eq, Bool.or_eq_true, Bool.and_eq_true, Bool.or_eq_false_iff] at hc)))
    apply SeqP.eff
    · rfl
    intro KE hKE
    refine oper_app (by rfl) (by rfl) (by rfl) hrun ?_
    have hw2 := below_trans HH.out.1.drew HL.out.2 HH.out.1.size
    have C0 := HH.out.2.1.drew.keep HL.out.2
    have C1 := HH.out.2.2.1.drew.keep HL.out.2
    refine hKE _ _ (hTP' _ ⟨hw2, C0, C1⟩) ?_
    clear hKE KE
    go_wp2_with (first
      | (apply SeqP.skip; rfl; simp only [Act.put, List.setIfInBounds_toArray, List.set_cons_zero, List.set_cons_succ])
      | (apply SeqP.call; rfl; rfl; (intro w2 hw; have hw := hTP _ hw; (skip); go_simp; exact ⟨rfl, rfl⟩); (intro w2 hw; have hw := hTP _ hw; (skip); (first | fail)); simp only [Act.put, List.setIfInBounds_toArray, List.set_cons_zero, List.set_cons_succ])
      | (apply SeqP.pure; rfl; (intro w2 hw; have hw := hTP _ hw; (skip); go_simp; with_reducible rfl); simp only [Act.put, List.setIfInBounds_toArray, List.set_cons_zero, List.set_cons_succ])
      | (apply SeqP.split; rfl; rfl; all_goals (intro hc; simp only [hc]; try simp only [beq_iff_eq, decide_eq_true_eq, beq_eq_false_iff_ne, decide_eq_false_iff_not, bne_iff_ne, ne_eq, Bool.not_eq_true', Bool.not_eq_false', Int.not_le, Int.not_lt, bne_eq_false_iff_eq, Bool.or_eq_true, Bool.and_eq_true, Bool.or_eq_false_iff] at hc)))
    apply SeqP.nil
    refine hKP _ _ (hTP' _ (⟨hw2, C0, C1⟩)) ?_
    clear hKP hTP hTP'
    have hz2 := hw2.size
    have x2 := C1.cell 2
    simp at x2
    have hml : (lg.take fn ++ es).length ≤ 9223372036854775807 := by rw [List.length_append, List.length_take]; omega
    have hL2 := HL.out.1
    have hLl := (HH.out.2.2.2.1.keep (Below.refl _ _).drew).keep HL.out.2
    have HK := Lib.hid (And.intro hL2 hLl)
    clear hrun HL HH hL2 hLl
    have HLN := Lib.hid hln
    clear hln
    generalize lg.take fn ++ es = mm at hml HV HK HLN ⊢
    go_wp2_with fail
    have hW := whole_any mm A1 c1 ep w2 HK.out.1.2.2.2 hml
    rw [HLN.out] at hW
    refine hW.mono ?_
    clear hW
    rintro e w3 ⟨rfl, hb⟩
    have hw3 := below_trans hw2 hb hz2
    have D0 := C0.keep hb
    have HM := Lib.hid (And.intro (HK.out.1.keep hb) (HK.out.2.keep hb))
    have hz3 := hw3.size
    clear hb HK C0 C1 x2 hw2
    cases hO : okLog mm ep with
    | false =>
      have HN := Lib.hid (HV.out.2 (fun h => by rw [hO] at h; cases h.1))
      clear hO
      go_wp2_with fail
      go_ret2
      exact ViewP.no HN.out (A1, fn + es.length, c1) rfl hw3
    | true =>
      have hP := prefix_any (lg.take kn) mm A A1 c c1 w3 (HM.out.2.2.2.2.take kn) HM.out.1.2.2.2 (by rw [List.length_take]; omega) hml HM.out.1.2.1 HM.out.1.2.2.1
      rw [List.length_take, Nat.min_eq_left (by omega), HLN.out] at hP
      have HP := Lib.hid hP
      have d2 := D0.cell 2
      have d3 := D0.cell 3
      simp at d2 d3
      have HO := Lib.hid hO
      clear hP hO
      go_wp2_with fail
      refine HP.out.mono ?_
      rintro e w4 ⟨rfl, hb⟩
      have hw4 := below_trans hw3 hb hz3
      have hL4 := HM.out.1.keep hb
      clear hb HM HP
      by_cases hpre : lg.take kn <+: mm
      · have hY := HV.out.1 HO.out hpre
        have HY := Lib.hid (And.intro hY hL4)
        rw [decide_eq_true hpre]
        clear hY hL4 hpre
        go_wp2_with fail
        go_ret2
        refine ⟨(A1, fn + es.length, c1), ?_, ?_, hw4⟩
        · show _ = Ending.returned (.tuple #[_, .bool (viewR ⟨p, v, lg, kn⟩ ⟨kd, st, ep, vw, fn, ln, es⟩).isSome])
          rw [HY.out.1]
          rfl
        · intro a ha
          have ha' : viewR ⟨p, v, lg, kn⟩ ⟨kd, st, ep, vw, fn, ln, es⟩ = some a := ha
          rw [HY.out.1] at ha'
          cases ha'
          exact ⟨HY.out.2, HWH.out⟩
      · have HN := Lib.hid (HV.out.2 (fun h => hpre h.2))
        rw [decide_eq_false hpre]
        clear hpre
        go_wp2_with fail
        go_ret2
        exact ViewP.no HN.out (A1, fn + es.length, c1) rfl hw4
end Go.Proofs.Ytbicefilfhcgoaa

set_option linter.unusedSimpArgs false
set_option linter.unusedVariables false
set_option maxRecDepth 100000
namespace Go.Proofs.Ytbicefilfhcgoaa
open Go Go.RowKit Go.Sq Go.Wd Go.Arch

/-- What Apply tells: a register and whether; its log. -/
def AppP (r : RegS) (x : RecS) (w : World) (e : Ending) (w' : World) : Prop :=
  ∃ sl : SlcE, e = .returned (.tuple #[.agg (rgv (regR (applyR r x)).1 sl).toArray, .bool (regR (applyR r x)).2]) ∧ (LogAt w' w'.heap.size sl (regR (applyR r x)).1.log ∧ ∀ b o, sl.1 = some ⟨b, o, none⟩ → w.heap.size ≤ b) ∧ Below w.heap.size w w'
theorem AppP.no {r : RegS} {x : RecS} {w w' : World} {e : Ending} (h : applyR r x = none) (he : e = .returned (.tuple #[.agg (rgv reg0 (none, 0, 0)).toArray, .bool false])) (hb : Below w.heap.size w w') : AppP r x w e w' := by
  refine ⟨(none, 0, 0), ?_, ?_, hb⟩
  · rw [h]; exact he
  · rw [h]; exact ⟨LogAt.nil, fun b o h => by cases h⟩
theorem AppP.yes {r a : RegS} {x : RecS} {w w' : World} {e : Ending} (h : applyR r x = some a) (sl : SlcE) (he : e = .returned (.tuple #[.agg (rgv a sl).toArray, .bool true])) (hl : LogAt w' w'.heap.size sl a.log) (hwh : ∀ b o, sl.1 = some ⟨b, o, none⟩ → w.heap.size ≤ b) (hb : Below w.heap.size w w') : AppP r x w e w' := by
  refine ⟨sl, ?_, ?_, hb⟩
  · rw [h]; exact he
  · rw [h]; exact ⟨hl, hwh⟩
theorem apply_bad {r : RegS} {x : RecS} (h : mayR r = false) : applyR r x = none := by
  unfold applyR; rw [if_neg (by rw [h]; simp)]

theorem Row.wh {w : World} {B B' : Nat} {A : Option Addr} {n c : Nat} {l : List Ent} (h : Row w B (.slice A n c) l) (hB : B' ≤ B) : ∀ b o, A = some ⟨b, o, none⟩ → B' ≤ b := by
  intro b o ho
  rcases h.where_ with h' | ⟨g, h', hg⟩
  · rw [h'] at ho; cases ho
  · rw [h'] at ho; cases ho; omega
theorem rgv_one (r : RegS) (sl : SlcE) : ∀ v ∈ rgv r sl, v.oneCell' = true := by simp [rgv, Value.oneCell']

set_option maxHeartbeats 4000000 in
theorem apply_off (r : RegS) (sl : SlcE) (x : RecV) (w : World) (hm : mayR r = false) (hl : LogAt w w.heap.size sl r.log) :
    Calls Try.prog 16 #[.agg (rgv r sl).toArray, .agg (rcv x).toArray] w (AppP r x.s w) := by
  have HM := Lib.hid (apply_bad (x := x.s) hm)
  have hz : Below w.heap.size w (((w.alloc (.cells (rgv r sl).toArray 24)).alloc (.cells (rcv x).toArray 27)).alloc (.cells (rgv reg0 (none, 0, 0)).toArray 24)) := (((Below.refl _ _).alloc (Nat.le_refl _) _).alloc (by simp) _).alloc (by simp; omega) _
  have BZ : Blk (((w.alloc (.cells (rgv r sl).toArray 24)).alloc (.cells (rcv x).toArray 27)).alloc (.cells (rgv reg0 (none, 0, 0)).toArray 24)) (w.heap.size + 1 + 1) 24 (rgv reg0 (none, 0, 0)) := Blk.newAt _ _ _ (by simp)
  have B0 : Blk (((w.alloc (.cells (rgv r sl).toArray 24)).alloc (.cells (rcv x).toArray 27)).alloc (.cells (rgv reg0 (none, 0, 0)).toArray 24)) w.heap.size 24 (rgv r sl) := ((Blk.new w _ _).alloc _).alloc _
  have hc := check15_any r sl _ (hl.keep hz)
  rw [hm] at hc
  have HH := Lib.hid (And.intro hz (And.intro BZ (And.intro B0 hc)))
  clear hz BZ B0 hc hl hm
  go_enter Try.func16, Try.ntmps16
  go_wp2_with ((with_reducible refine at_list ?_); refine wpList_load_blk rfl 24 _ rfl _ rfl _ _ _ (HH.out.2.2.1) Try.underlying24 rfl rg_info ?_)
  refine HH.out.2.2.2.mono ?_
  rintro e w1 ⟨rfl, hb⟩
  have hw1 := below_trans HH.out.1 hb HH.out.1.size
  have C2 := HH.out.2.1.keep hb
  clear HH hb
  go_wp2_with ((with_reducible refine at_list ?_); (refine wpList_store_blk rfl 24 _ _ rfl _ (rgv reg0 (none, 0, 0)) rfl rfl _ _ (C2) rg_info rfl (rgv_one _ _) ?_; intro w8 B8 hb8 hk8))
  have hw8 := hw1.trans (hb8 _ (by omega))
  apply ret_of
  · exact results_blk_tmp rfl _ _ _ _ _ _ rfl (B8) Try.underlying24 rfl rg_info _ rfl
  · exact ⟨rfl, AppP.no HM.out rfl hw8⟩

theorem LogAt.apart {w w' : World} {B k : Nat} {sl : SlcE} {l : List Ent} (h : LogAt w B sl l) (hB : B ≤ w.heap.size) (hg : w.grownBy w' (some k)) (hne : ∀ b o, sl.1 = some ⟨b, o, none⟩ → b ≠ k) : LogAt w' w'.heap.size sl l := by
  refine ⟨h.1, h.2.1, h.2.2.1, fun hl => ?_⟩
  obtain ⟨b, off, ha, hb, hc⟩ := h.2.2.2 hl
  have hk := hg.block b (by omega) (fun e => hne b off ha (Option.some.inj e))
  refine ⟨b, off, ha, Nat.lt_of_lt_of_le hb (Nat.le_trans hB hg.size), fun i e he => ?_⟩
  obtain ⟨c0, c1, c2, c3, c4, c5⟩ := hc i e he
  have key : ∀ o v, w.cell? ⟨b, o, none⟩ = some v → w'.cell? ⟨b, o, none⟩ = some v := fun o v hv => (World.cell?_of_block (a := ⟨b, o, none⟩) hk).trans hv
  exact ⟨key _ _ c0, key _ _ c1, key _ _ c2, key _ _ c3, key _ _ c4, key _ _ c5⟩
theorem viewR_some {r a : RegS} {x : RecS} (h : viewR r x = some a) : a = ⟨x.epoch, x.epoch, logR r x, r.com⟩ := by
  unfold viewR at h
  split at h
  · cases h; rfl
  · cases h

theorem Row.blkFar {w w' : World} {B k : Nat} {v : Value} {l : List Ent} (h : Row w B v l) (hk : ∀ i T cs, i ≠ k → Blk w i T cs → Blk w' i T cs) (hB : k < B) : Row w' B v l := by
  refine ⟨h.1, ?_⟩
  rcases h.2 with h' | ⟨g, cap, cur, h1, h2, h3, rest⟩
  · exact .inl h'
  · refine .inr ⟨g, cap, cur, h1, h2, ?_, rest⟩
    have := hk g 44 cur.toList (by omega) (by unfold Blk; simpa using h3)
    unfold Blk at this
    simpa using this

/-- One continuation for all leaves, with two letters. -/
theorem merge2 {G : Prop} (Inv : Nat → SlcE → World → Prop) (K : Act → World → Prop) {F : Nat → SlcE → Act} (h1 : (∀ g s w', Inv g s w' → K (F g s) w') → G) (h2 : ∀ g s w', Inv g s w' → K (F g s) w') : G := h1 h2

/-- What a kind comes to, of a register that may be. -/
theorem apply_1 {r : RegS} {x : RecS} (h : mayR r = true) (k : x.kind = 1) : applyR r x = if r.prom < x.epoch ∧ x.epoch ≤ 1048576 then some { r with prom := x.epoch } else none := by
  unfold applyR; rw [if_pos h, if_pos k]
theorem apply_2 {r : RegS} {x : RecS} (h : mayR r = true) (k : x.kind = 2) : applyR r x = viewR r x := by
  unfold applyR; rw [if_pos h, if_neg (by rw [k]; decide), if_pos k]
theorem apply_3 {r : RegS} {x : RecS} (h : mayR r = true) (k : x.kind = 3) : applyR r x = if r.com < x.len ∧ x.len ≤ r.log.length then some { r with com := x.len } else none := by
  unfold applyR; rw [if_pos h, if_neg (by rw [k]; decide), if_neg (by rw [k]; decide), if_pos k]
theorem apply_4 {r : RegS} {x : RecS} (h : mayR r = true) (k : x.kind = 4) : applyR r x = if r.prom = 0 ∧ mayR ⟨x.epoch, x.view, x.ents, x.len⟩ = true then some ⟨x.epoch, x.view, x.ents, x.len⟩ else none := by
  unfold applyR; rw [if_pos h, if_neg (by rw [k]; decide), if_neg (by rw [k]; decide), if_neg (by rw [k]; decide), if_pos k]
theorem apply_else {r : RegS} {x : RecS} (h1 : x.kind ≠ 1) (h2 : x.kind ≠ 2) (h3 : x.kind ≠ 3) (h4 : x.kind ≠ 4) : applyR r x = none := by
  unfold applyR; rw [if_neg h1, if_neg h2, if_neg h3, if_neg h4]; split <;> rfl

set_option maxHeartbeats 8000000 in
theorem apply_on (r : RegS) (sl : SlcE) (x : RecV) (w : World) (hm : mayR r = true) (hl : LogAt w w.heap.size sl r.log) (hx : LogAt w w.heap.size x.es x.ents) (hx2 : x.ents.length ≤ 1000) :
    Calls Try.prog 16 #[.agg (rgv r sl).toArray, .agg (rcv x).toArray] w (AppP r x.s w) := by
  have m64 : r.log.length ≤ 64 := ((okLog_iff _ _).1 ((mayR_iff r).1 hm).2.1).1
  have hz : Below w.heap.size w (((w.alloc (.cells (rgv r sl).toArray 24)).alloc (.cells (rcv x).toArray 27)).alloc (.cells (rgv reg0 (none, 0, 0)).toArray 24)) := (((Below.refl _ _).alloc (Nat.le_refl _) _).alloc (by simp) _).alloc (by simp; omega) _
  have BZ : Blk (((w.alloc (.cells (rgv r sl).toArray 24)).alloc (.cells (rcv x).toArray 27)).alloc (.cells (rgv reg0 (none, 0, 0)).toArray 24)) (w.heap.size + 1 + 1) 24 (rgv reg0 (none, 0, 0)) := Blk.newAt _ _ _ (by simp)
  have B0 : Blk (((w.alloc (.cells (rgv r sl).toArray 24)).alloc (.cells (rcv x).toArray 27)).alloc (.cells (rgv reg0 (none, 0, 0)).toArray 24)) w.heap.size 24 (rgv r sl) := ((Blk.new w _ _).alloc _).alloc _
  have B1 : Blk (((w.alloc (.cells (rgv r sl).toArray 24)).alloc (.cells (rcv x).toArray 27)).alloc (.cells (rgv reg0 (none, 0, 0)).toArray 24)) (w.heap.size + 1) 27 (rcv x) := (Blk.newAt _ _ _ (by simp)).alloc _
  have hc := check15_any r sl _ (hl.keep hz)
  rw [hm] at hc
  have HM := Lib.hid hm
  have HLX := Lib.hid (And.intro hl hx)
  have HH := Lib.hid (And.intro hz (And.intro BZ (And.intro B0 (And.intro B1 hc))))
  clear hz BZ B0 B1 hc hl hm hx
  go_enter Try.func16, Try.ntmps16
  go_wp2_with ((with_reducible refine at_list ?_); refine wpList_load_blk rfl 24 _ rfl _ rfl _ _ _ (HH.out.2.2.1) Try.underlying24 rfl rg_info ?_)
  refine HH.out.2.2.2.2.mono ?_
  rintro e w1 ⟨rfl, hb⟩
  have hw1 := below_trans HH.out.1 hb HH.out.1.size
  have hzB := hw1.size
  have C2 := HH.out.2.1.keep hb
  have C0 := HH.out.2.2.1.keep hb
  have C1 := HH.out.2.2.2.1.keep hb
  have l2 := C2.lt
  clear HH hb
  go_wp2_with ((with_reducible refine at_list ?_); refine wpList_load_blk rfl 24 _ rfl _ rfl _ _ _ (C0) Try.underlying24 rfl rg_info ?_)
  refine (regclone_any r sl _ (HLX.out.1.keep hw1) (by omega)).mono ?_
  rintro e w2 ⟨sl2, rfl, hR, hb⟩
  have hw2 := below_trans hw1 hb hw1.size
  have D2 := C2.keep hb
  have D0 := C0.keep hb
  have D1 := C1.keep hb
  clear hb C0 C1 C2
  have HR := Lib.hid hR
  clear hR hw1
  go_wp2_with ((with_reducible refine at_list ?_); first | (refine wpList_store_own rfl 24 _ _ rfl _ (rgv r sl2) rfl rfl _ _ (D0) rg_info rfl (rgv_one _ _) ?_; intro w3 E0 g3) | (with_reducible refine cut_at 14 rfl ?_))
  refine Cut.go ?_
  have hz2 := hw2.size
  have hw3 := hw2.trans (below_grown g3 (Nat.le_refl _) hz2)
  have E1 := D1.grown g3 (fun e => by have := Option.some.inj e; omega)
  have E2 := D2.grown g3 (fun e => by have := Option.some.inj e; omega)
  have R3 := Row.far HR.out g3 (by omega)
  have hz3 := hw3.size
  have l3 := E2.lt
  clear g3 HR D0 D1 D2 hw2
  have HR := Lib.hid R3
  clear R3
  have x0 := E1.cell 0
  have x2 := E1.cell 2
  have x3 := E1.cell 3
  have x5 := E1.cell 5
  have r0 := E0.cell 0
  have r2 := E0.cell 2
  have r3 := E0.cell 3
  have fr := E0.frozen
  have lE1 := E1.lt
  have lE0 := E0.lt
  simp [rcv] at x0 x2 x3 x5
  simp [rgv] at r0 r2 r3
  by_cases k1 : x.kind = 1
  case pos =>
    rw [k1] at x0
    have hA := apply_1 (x := x.s) HM.out k1
    have F0 := E0.set 0 (.int .i64 x.epoch)
    have F0 : Blk _ _ _ (rgv { r with prom := x.epoch } sl2) := F0.of_eq rfl
    have F2 := E2.far (p := ⟨w.heap.size, 0, none⟩) (by simp; omega) (.int .i64 x.epoch)
    have g4 : w3.grownBy (w3.setCell ⟨w.heap.size, 0, none⟩ (.int .i64 x.epoch)) (some w.heap.size) := by (repeat (first | with_reducible apply only_drew | with_reducible refine only_setCell ?_ (by first | exact Or.inl rfl | (right; simp; done) | (right; simp; omega) | (right; omega)) _ | with_reducible refine only_alloc ?_ _ | with_reducible exact World.grownBy.refl _ _ | with_reducible assumption))
    have hw4 := hw3.trans (below_grown g4 (Nat.le_refl _) hz3)
    have R4 := Row.far HR.out g4 (by omega)
    have H4 := Lib.hid (And.intro hw4 R4)
    clear hw4 R4 g4
    have hA' : applyR r x.s = if r.prom < x.epoch ∧ x.epoch ≤ 1048576 then some { r with prom := x.epoch } else none := hA
    clear hA k1
    by_cases hc : r.prom < x.epoch ∧ x.epoch ≤ 1048576
    · rw [if_pos hc] at hA'
      have HA := Lib.hid hA'
      obtain ⟨c1, c2⟩ := hc
      clear hA'
      go_wp2_with ((with_reducible refine at_list ?_); first | refine wpList_load_blk rfl 24 _ rfl _ rfl _ _ _ (F0) Try.underlying24 rfl rg_info ?_ | (refine wpList_store_own rfl 24 _ _ rfl _ (rgv _ sl2) rfl rfl _ _ (F2) rg_info rfl (rgv_one _ _) ?_; intro w8 B8 g8))
      have hw8 := H4.out.1.trans (below_grown g8 (by omega) H4.out.1.size)
      have R8 := Row.far H4.out.2 g8 (by omega)
      apply ret_of
      · exact results_blk_tmp rfl _ _ _ _ _ _ rfl (B8) Try.underlying24 rfl rg_info _ rfl
      · exact ⟨rfl, AppP.yes HA.out sl2 rfl R8.logAt (R8.wh hzB) hw8⟩
    · rw [if_neg hc] at hA'
      have HA := Lib.hid hA'
      clear hA'
      have hcc : (¬ r.prom < x.epoch) ∨ (r.prom < x.epoch ∧ ¬ x.epoch ≤ 1048576) := by
        by_cases h : r.prom < x.epoch
        · exact .inr ⟨h, fun h' => hc ⟨h, h'⟩⟩
        · exact .inl h
      clear hc
      rcases hcc with c1 | ⟨c1, c2⟩
      all_goals
        go_wp2_with ((with_reducible refine at_list ?_); (refine wpList_store_own rfl 24 _ _ rfl _ (rgv reg0 (none, 0, 0)) rfl rfl _ _ (F2) rg_info rfl (rgv_one _ _) ?_; intro w8 B8 g8))
        have hw8 := H4.out.1.trans (below_grown g8 (by omega) H4.out.1.size)
        apply ret_of
        · exact results_blk_tmp rfl _ _ _ _ _ _ rfl (B8) Try.underlying24 rfl rg_info _ rfl
        · exact ⟨rfl, AppP.no HA.out rfl hw8⟩
  by_cases k2 : x.kind = 2
  case pos =>
    rw [k2] at x0
    have hA : applyR r x.s = viewR r x.s := apply_2 (x := x.s) HM.out k2
    have HA := Lib.hid hA
    clear hA k1 k2
    go_wp2_with ((with_reducible refine at_list ?_); first | refine wpList_load_blk rfl 24 _ rfl _ rfl _ _ _ (E0) Try.underlying24 rfl rg_info ?_ | refine wpList_load_blk rfl 27 _ rfl _ rfl _ _ _ (E1) Try.underlying27 rfl rc_info ?_)
    refine (viewed_any r sl2 x w3 HM.out HR.out.logAt (HLX.out.2.keep hw3) hx2).mono ?_
    rintro e w4 ⟨slv, rfl, hLv, hb⟩
    have hw4 := below_trans hw3 hb hz3
    have G0 := E0.keep hb
    have G1 := E1.keep hb
    have G2 := E2.keep hb
    have hz4 := hw4.size
    have HLv := Lib.hid hLv
    clear hb hLv E0 E1 E2 x0 x2 x3 x5 r0 r2 r3 fr lE1 lE0
    have r2 := G0.cell 2
    have fr := G0.frozen
    have lG0 := G0.lt
    have lG1 := G1.lt
    simp [rgv] at r2
    have J0 := G0.set 2 (.slice slv.1 slv.2.1 slv.2.2)
    have J1 := G1.far (p := ⟨w.heap.size, 2, none⟩) (by simp) (.slice slv.1 slv.2.1 slv.2.2)
    have J2 := G2.far (p := ⟨w.heap.size, 2, none⟩) (by simp; omega) (.slice slv.1 slv.2.1 slv.2.2)
    have hw5 : Below w.heap.size w (w4.setCell ⟨w.heap.size, 2, none⟩ (.slice slv.1 slv.2.1 slv.2.2)) := hw4.setCell (Nat.le_refl _) _
    have gg : w4.grownBy (w4.setCell ⟨w.heap.size, 2, none⟩ (.slice slv.1 slv.2.1 slv.2.2)) (some w.heap.size) := by (repeat (first | with_reducible apply only_drew | with_reducible refine only_setCell ?_ (by first | exact Or.inl rfl | (right; simp; done) | (right; simp; omega) | (right; omega)) _ | with_reducible refine only_alloc ?_ _ | with_reducible exact World.grownBy.refl _ _ | with_reducible assumption))
    have HJ := Lib.hid (And.intro J0 (And.intro J1 (And.intro J2 (And.intro hw5 gg))))
    clear J0 J1 J2 hw5 gg
    go_wp2_with fail
    clear r2 fr
    obtain ⟨J0, J1, J2, hw5, gg⟩ := HJ.out
    clear HJ
    generalize w4.setCell ⟨w.heap.size, 2, none⟩ (.slice slv.1 slv.2.1 slv.2.2) = w5 at J0 J1 J2 hw5 gg ⊢
    have hz5 := hw5.size
    refine wp_region_p ([(0, true), (1, true), (2, true), (3, true), (4, true), (5, false), (6, true), (7, false)]) (fun w' => Below w.heap.size w w' ∧ Blk w' (w.heap.size + 1) 27 (rcv x)) (by kernel_rfl) rfl (by kernel_rfl) (by kernel_rfl) (⟨hw5.drew, J1.drew⟩) rfl ?_
    intro KP RP TP hKP hTP hTP'
    simp only [pick, nth]
    go_wp2_with (first
      | (apply SeqP.skip; rfl; simp only [Act.put, List.setIfInBounds_toArray, List.set_cons_zero, List.set_cons_succ])
      | (apply SeqP.call; rfl; rfl; (intro w2 hw; have hw := hTP _ hw; ((have x2 := hw.2.cell 2; simp [rcv] at x2)); go_simp; exact ⟨rfl, rfl⟩); (intro w2 hw; have hw := hTP _ hw; ((have x2 := hw.2.cell 2; simp [rcv] at x2)); (first | fail)); simp only [Act.put, List.setIfInBounds_toArray, List.set_cons_zero, List.set_cons_succ])
      | (apply SeqP.pure; rfl; (intro w2 hw; have hw := hTP _ hw; ((have x2 := hw.2.cell 2; simp [rcv] at x2)); go_simp; with_reducible rfl); simp only [Act.put, List.setIfInBounds_toArray, List.set_cons_zero, List.set_cons_succ])
      | (apply SeqP.split; rfl; rfl; all_goals (intro hc; simp only [hc]; try simp only [beq_iff_eq, decide_eq_true_eq, beq_eq_false_iff_ne, decide_eq_false_iff_not, bne_iff_ne, ne_eq, Bool.not_eq_true', Bool.not_eq_false', Int.not_le, Int.not_lt, bne_eq_false_iff_eq, Bool.or_eq_true, Bool.and_eq_true, Bool.or_eq_false_iff] at hc)))
    have y0 := J0.drew.cell 0
    have y1 := J0.drew.cell 1
    have fr := J0.drew.frozen
    have lJ0 := J0.lt
    simp [rgv] at y0 y1
    apply SeqP.eff
    · rfl
    intro KE hKE
    go_wp2_with fail
    have hw6 : Below w.heap.size w (w5.drew.setCell ⟨w.heap.size, 0, none⟩ (.int .i64 x.epoch)) := hw5.drew.setCell (Nat.le_refl _) _
    have L1 := J1.drew.far (p := ⟨w.heap.size, 0, none⟩) (by simp) (.int .i64 x.epoch)
    refine hKE _ _ (hTP' _ ⟨hw6, L1⟩) ?_
    clear hKE KE
    go_wp2_with (first
      | (apply SeqP.skip; rfl; simp only [Act.put, List.setIfInBounds_toArray, List.set_cons_zero, List.set_cons_succ])
      | (apply SeqP.call; rfl; rfl; (intro w2 hw; have hw := hTP _ hw; ((have x2 := hw.2.cell 2; simp [rcv] at x2)); go_simp; exact ⟨rfl, rfl⟩); (intro w2 hw; have hw := hTP _ hw; ((have x2 := hw.2.cell 2; simp [rcv] at x2)); (first | fail)); simp only [Act.put, List.setIfInBounds_toArray, List.set_cons_zero, List.set_cons_succ])
      | (apply SeqP.pure; rfl; (intro w2 hw; have hw := hTP _ hw; ((have x2 := hw.2.cell 2; simp [rcv] at x2)); go_simp; with_reducible rfl); simp only [Act.put, List.setIfInBounds_toArray, List.set_cons_zero, List.set_cons_succ])
      | (apply SeqP.split; rfl; rfl; all_goals (intro hc; simp only [hc]; try simp only [beq_iff_eq, decide_eq_true_eq, beq_eq_false_iff_ne, decide_eq_false_iff_not, bne_iff_ne, ne_eq, Bool.not_eq_true', Bool.not_eq_false', Int.not_le, Int.not_lt, bne_eq_false_iff_eq, Bool.or_eq_true, Bool.and_eq_true, Bool.or_eq_false_iff] at hc)))
    have hJ6 := J0.set 0 (.int .i64 x.epoch)
    have z1 : (w5.setCell ⟨w.heap.size, 0, none⟩ (.int .i64 x.epoch)).cell? ⟨w.heap.size, 1, none⟩ = some (.int .i64 r.view) := hJ6.cell 1
    have fr6 := hJ6.frozen
    have y2 : w5.cell? ⟨w.heap.size, 1, none⟩ = some (.int .i64 r.view) := J0.cell 1
    have fr5 := J0.frozen
    apply SeqP.eff
    · rfl
    intro KE hKE
    clear y0 y1 fr
    go_wp2_with fail
    have hw7 : Below w.heap.size w ((w5.drew.setCell ⟨w.heap.size, 0, none⟩ (.int .i64 x.epoch)).setCell ⟨w.heap.size, 1, none⟩ (.int .i64 x.epoch)) := hw6.setCell (Nat.le_refl _) _
    have M1 := L1.far (p := ⟨w.heap.size, 1, none⟩) (by simp) (.int .i64 x.epoch)
    refine hKE _ _ (hTP' _ ⟨hw7, M1⟩) ?_
    clear hKE KE
    apply SeqP.nil
    refine hKP _ _ (hTP' _ (⟨hw7, M1⟩)) ?_
    clear hKP hTP hTP'
    have K0 := ((J0.set 0 (.int .i64 x.epoch)).set 1 (.int .i64 x.epoch)).drew
    have K2 := ((J2.far (p := ⟨w.heap.size, 0, none⟩) (by simp; omega) (.int .i64 x.epoch)).far (p := ⟨w.heap.size, 1, none⟩) (by simp; omega) (.int .i64 x.epoch)).drew
    have hw7' : Below w.heap.size w ((w5.setCell ⟨w.heap.size, 0, none⟩ (.int .i64 x.epoch)).setCell ⟨w.heap.size, 1, none⟩ (.int .i64 x.epoch)).drew := ((hw5.setCell (Nat.le_refl _) _).setCell (Nat.le_refl _) _).drew
    have g7 : w5.grownBy ((w5.setCell ⟨w.heap.size, 0, none⟩ (.int .i64 x.epoch)).setCell ⟨w.heap.size, 1, none⟩ (.int .i64 x.epoch)).drew (some w.heap.size) := by (repeat (first | with_reducible apply only_drew | with_reducible refine only_setCell ?_ (by first | exact Or.inl rfl | (right; simp; done) | (right; simp; omega) | (right; omega)) _ | with_reducible refine only_alloc ?_ _ | with_reducible exact World.grownBy.refl _ _ | with_reducible assumption))
    clear z1 fr6 y2 fr5 hJ6 J0 J1 J2 hw6 L1 M1 hw7
    have hw7 := hw7'
    clear hw7'
    generalize ((w5.setCell ⟨w.heap.size, 0, none⟩ (.int .i64 x.epoch)).setCell ⟨w.heap.size, 1, none⟩ (.int .i64 x.epoch)).drew = w7 at hw7 K0 K2 g7 ⊢
    have hz7 := hw7.size
    cases hv : viewR r x.s with
    | none =>
      have HN := Lib.hid (HA.out.trans hv)
      clear hv
      simp only [Option.isSome_none]
      go_wp2_with ((with_reducible refine at_list ?_); (refine wpList_store_own rfl 24 _ _ rfl _ (rgv reg0 (none, 0, 0)) rfl rfl _ _ (K2) rg_info rfl (rgv_one _ _) ?_; intro w8 B8 g8))
      have hw8 := hw7.trans (below_grown g8 (by omega) hz7)
      apply ret_of
      · exact results_blk_tmp rfl _ _ _ _ _ _ rfl (B8) Try.underlying24 rfl rg_info _ rfl
      · exact ⟨rfl, AppP.no HN.out rfl hw8⟩
    | some a =>
      have HY := Lib.hid (HA.out.trans hv)
      obtain ⟨hL4, hwh⟩ := HLv.out a hv
      have ha := viewR_some hv
      have hne : ∀ b o, slv.1 = some ⟨b, o, none⟩ → w.heap.size + 1 + 1 < b := by
        intro b o hb
        rcases hwh with h | ⟨g, h, hg⟩
        · rcases Row.where_ HR.out with h2 | ⟨g, h2, hg⟩
          · rw [h2] at h; rw [h] at hb; cases hb
          · rw [h2] at h; rw [h] at hb; cases hb; omega
        · rw [h] at hb; cases hb; omega
      have hL5 := hL4.apart (Nat.le_refl _) gg (fun b o h => by have := hne b o h; omega)
      have hL7 := hL5.apart (Nat.le_refl _) g7 (fun b o h => by have := hne b o h; omega)
      have HL7 := Lib.hid (And.intro hL7 hne)
      have K0 : Blk w7 w.heap.size 24 (rgv a slv) := K0.of_eq (by rw [ha]; rfl)
      clear hL4 hwh hL5 hL7 hne ha hv
      simp only [Option.isSome_some]
      go_wp2_with ((with_reducible refine at_list ?_); first | refine wpList_load_blk rfl 24 _ rfl _ rfl _ _ _ (K0) Try.underlying24 rfl rg_info ?_ | (refine wpList_store_own rfl 24 _ _ rfl _ (rgv _ slv) rfl rfl _ _ (K2) rg_info rfl (rgv_one _ _) ?_; intro w8 B8 g8))
      have hw8 := hw7.trans (below_grown g8 (by omega) hz7)
      have hL8 := HL7.out.1.apart (Nat.le_refl _) g8 (fun b o h => by have := HL7.out.2 b o h; omega)
      apply ret_of
      · exact results_blk_tmp rfl _ _ _ _ _ _ rfl (B8) Try.underlying24 rfl rg_info _ rfl
      · exact ⟨rfl, AppP.yes HY.out slv rfl hL8 (fun b o h => by have := HL7.out.2 b o h; omega) hw8⟩
  by_cases k3 : x.kind = 3
  case pos =>
    rw [k3] at x0
    have hA : applyR r x.s = if r.com < x.len ∧ x.len ≤ r.log.length then some { r with com := x.len } else none := apply_3 (x := x.s) HM.out k3
    have hln : sl2.2.1 = r.log.length := HR.out.logAt.1
    rw [hln] at r2
    have F0 := E0.set 3 (.int .i64 x.len)
    have F0 : Blk _ _ _ (rgv { r with com := x.len } sl2) := F0.of_eq rfl
    have F2 := E2.far (p := ⟨w.heap.size, 3, none⟩) (by simp; omega) (.int .i64 x.len)
    have g4 : w3.grownBy (w3.setCell ⟨w.heap.size, 3, none⟩ (.int .i64 x.len)) (some w.heap.size) := by (repeat (first | with_reducible apply only_drew | with_reducible refine only_setCell ?_ (by first | exact Or.inl rfl | (right; simp; done) | (right; simp; omega) | (right; omega)) _ | with_reducible refine only_alloc ?_ _ | with_reducible exact World.grownBy.refl _ _ | with_reducible assumption))
    have hw4 := hw3.trans (below_grown g4 (Nat.le_refl _) hz3)
    have R4 := Row.far HR.out g4 (by omega)
    have H4 := Lib.hid (And.intro hw4 R4)
    clear hw4 R4 g4 hln k1 k2 k3
    by_cases hc : r.com < x.len ∧ x.len ≤ (r.log.length : Int)
    · rw [if_pos hc] at hA
      have HA := Lib.hid hA
      obtain ⟨c1, c2⟩ := hc
      have d1 : decide (x.len ≤ (r.log.length : Int)) = true := decide_eq_true c2
      clear hA
      go_wp2_with ((with_reducible refine at_list ?_); first | refine wpList_load_blk rfl 24 _ rfl _ rfl _ _ _ (F0) Try.underlying24 rfl rg_info ?_ | (refine wpList_store_own rfl 24 _ _ rfl _ (rgv _ sl2) rfl rfl _ _ (F2) rg_info rfl (rgv_one _ _) ?_; intro w8 B8 g8))
      have hw8 := H4.out.1.trans (below_grown g8 (by omega) H4.out.1.size)
      have R8 := Row.far H4.out.2 g8 (by omega)
      apply ret_of
      · exact results_blk_tmp rfl _ _ _ _ _ _ rfl (B8) Try.underlying24 rfl rg_info _ rfl
      · exact ⟨rfl, AppP.yes HA.out sl2 rfl R8.logAt (R8.wh hzB) hw8⟩
    · rw [if_neg hc] at hA
      have HA := Lib.hid hA
      clear hA
      have hcc : (¬ r.com < x.len) ∨ (r.com < x.len ∧ ¬ x.len ≤ (r.log.length : Int)) := by
        by_cases h : r.com < x.len
        · exact .inr ⟨h, fun h' => hc ⟨h, h'⟩⟩
        · exact .inl h
      clear hc
      rcases hcc with c1 | ⟨c1, c2⟩
      case' inr => have d1 : decide (x.len ≤ (r.log.length : Int)) = false := decide_eq_false c2
      all_goals
        go_wp2_with ((with_reducible refine at_list ?_); (refine wpList_store_own rfl 24 _ _ rfl _ (rgv reg0 (none, 0, 0)) rfl rfl _ _ (F2) rg_info rfl (rgv_one _ _) ?_; intro w8 B8 g8))
        have hw8 := H4.out.1.trans (below_grown g8 (by omega) H4.out.1.size)
        apply ret_of
        · exact results_blk_tmp rfl _ _ _ _ _ _ rfl (B8) Try.underlying24 rfl rg_info _ rfl
        · exact ⟨rfl, AppP.no HA.out rfl hw8⟩
  by_cases k4 : x.kind = 4
  case pos =>
    rw [k4] at x0
    have hA : applyR r x.s = if r.prom = 0 ∧ mayR ⟨x.epoch, x.view, x.ents, x.len⟩ = true then some ⟨x.epoch, x.view, x.ents, x.len⟩ else none := apply_4 (x := x.s) HM.out k4
    have HA := Lib.hid hA
    have hes : x.es.2.1 = x.ents.length := HLX.out.2.1
    have HLE : Hid (∀ W', Below w.heap.size w W' → LogAt W' W'.heap.size (x.es.1, x.ents.length, x.es.2.2) x.ents) := Lib.hid (fun W' h => by have h2 := HLX.out.2.keep h; exact ⟨rfl, h2.2.1, h2.2.2.1, h2.2.2.2⟩)
    clear hA k1 k2 k3 k4 x2 x3 x5 r2 r3
    go_wp2_with fail
    refine wp_region_t (.quiet 0 (.quiet 1 (.quiet 2 (.quiet 3 (.quiet 4 (.quiet 5 (.quiet 7 (.quiet 8 (.two 6 10 (.quiet 9 (.one 10 (.one 11 .done))) (.one 6 (.quiet 9 (.one 11 .done)))))))))))) (fun w' => Below w.heap.size w w' ∧ Blk w' (w.heap.size + 1) 27 (rcv x)) (by kernel_rfl) (by kernel_rfl) (by kernel_rfl) (by kernel_rfl) (⟨hw3.drew, E1.drew⟩) rfl ?_
    intro KP RP TP hKP hTP hTP'
    simp only [Sch.fill, nth]
    apply merge2 (Inv := fun g s w' => Below w.heap.size w w' ∧ Blk w' w.heap.size 24 (rgv r sl2) ∧ Blk w' (w.heap.size + 1) 27 (rcv x) ∧ Blk w' (w.heap.size + 1 + 1) 24 (rgv reg0 (none, 0, 0)) ∧ Blk w' g 24 (rgv ⟨x.epoch, x.view, x.ents, x.len⟩ s) ∧ LogAt w' w'.heap.size s x.ents ∧ (∀ b o, s.1 = some ⟨b, o, none⟩ → w.heap.size + 1 + 1 < b) ∧ w.heap.size + 1 + 1 < g) (K := KP)
    · intro HK
      go_wp2_with (first
        | (apply SeqT.skip; rfl; simp only [Act.put, List.setIfInBounds_toArray, List.set_cons_zero, List.set_cons_succ])
        | (apply SeqT.pure; rfl; (intro w2 hw; have hw := hTP _ hw; (have z2 := hw.2.cell 2; have z3 := hw.2.cell 3; have z5 := hw.2.cell 5; have z6 := hw.2.cell 6; simp [rcv] at z2 z3 z5 z6); go_simp; with_reducible rfl); simp only [Act.put, List.setIfInBounds_toArray, List.set_cons_zero, List.set_cons_succ]))
      apply SeqT.two
      · apply EffT.go
        · rfl
        intro KE hKE
        go_wp2_with fail
        have hC := clone_any x.ents x.es.1 x.es.2.2 w3.drew (HLE.out _ hw3.drew) (by omega)
        refine hC.mono ?_
        clear hC
        rintro e w4 ⟨v, rfl, hRv, hb⟩
        obtain ⟨s, rfl, hs⟩ := hRv.log
        have hwhere := Row.where_ hRv
        have hw4 := below_trans hw3.drew hb hz3
        have F0 := E0.drew.keep hb
        have F1 := E1.drew.keep hb
        have F2 := E2.drew.keep hb
        have hz4 := hb.size
        have lF2 := F2.lt
        refine hKE _ _ (hTP' _ ⟨hw4, F1⟩) ?_
        clear hKE KE
        go_wp2_with (first
          | (apply SeqT.skip; rfl; simp only [Act.put, List.setIfInBounds_toArray, List.set_cons_zero, List.set_cons_succ])
          | (apply SeqT.pure; rfl; (intro w2 hw; have hw := hTP _ hw; (have z2 := hw.2.cell 2; have z3 := hw.2.cell 3; have z5 := hw.2.cell 5; have z6 := hw.2.cell 6; simp [rcv] at z2 z3 z5 z6); go_simp; with_reducible rfl); simp only [Act.put, List.setIfInBounds_toArray, List.set_cons_zero, List.set_cons_succ]))
        apply SeqT.one
        apply EffT.go
        · rfl
        intro KE hKE
        go_wp2_with fail
        have ZZ := Blk.new w4 24 (rgv reg0 (none, 0, 0))
        have hwA := hw4.alloc hw4.size (.cells (rgv reg0 (none, 0, 0)).toArray 24)
        have A0 := F0.alloc (.cells (rgv reg0 (none, 0, 0)).toArray 24)
        have A1 := F1.alloc (.cells (rgv reg0 (none, 0, 0)).toArray 24)
        have A2 := F2.alloc (.cells (rgv reg0 (none, 0, 0)).toArray 24)
        refine hKE _ _ (hTP' _ ⟨hwA, A1⟩) ?_
        clear hKE KE
        apply SeqT.one
        apply EffT.go
        · rfl
        intro KE hKE
        refine wp_store_blk 24 _ _ rfl _ (rgv ⟨x.epoch, x.view, x.ents, x.len⟩ s) rfl rfl _ _ ZZ rg_info rfl (rgv_one _ _) ?_
        intro w5 B5 hb5 hk5
        have hw5 := hwA.trans (hb5 _ (by omega))
        have P0 := hk5 _ _ _ (by omega) A0
        have P1 := hk5 _ _ _ (by omega) A1
        have P2 := hk5 _ _ _ (by omega) A2
        have hsl := hs.keep (((Below.refl _ _).alloc (Nat.le_refl _) _).trans (hb5 _ (Nat.le_refl _)))
        have hwh : ∀ b o, s.1 = some ⟨b, o, none⟩ → w.heap.size + 1 + 1 < b := by
          intro b o hb
          rcases hwhere with h | ⟨g, h, hg⟩
          · rw [h] at hb; cases hb
          · rw [h] at hb; have e := congrArg Addr.block (Option.some.inj hb); have hg' : w3.heap.size ≤ g := hg; simp only at e; omega
        have hgt : w.heap.size + 1 + 1 < w4.heap.size := by omega
        refine hKE _ _ (hTP' _ ⟨hw5, P1⟩) ?_
        clear hKE KE
        go_wp2_with (first
          | (apply SeqT.skip; rfl; simp only [Act.put, List.setIfInBounds_toArray, List.set_cons_zero, List.set_cons_succ])
          | (apply SeqT.pure; rfl; (intro w2 hw; have hw := hTP _ hw; (have z2 := hw.2.cell 2; have z3 := hw.2.cell 3; have z5 := hw.2.cell 5; have z6 := hw.2.cell 6; simp [rcv] at z2 z3 z5 z6); go_simp; with_reducible rfl); simp only [Act.put, List.setIfInBounds_toArray, List.set_cons_zero, List.set_cons_succ]))
        apply SeqT.done
        clear hb5 hk5 A0 A1 A2 ZZ
        generalize w4.heap.size = gg at B5 hgt ⊢
        exact HK gg s _ ⟨hw5, P0, P1, P2, B5, hsl, hwh, hgt⟩
      · have ZZ := Blk.new w3.drew 24 (rgv reg0 (none, 0, 0))
        have hwA := hw3.drew.alloc hz3 (.cells (rgv reg0 (none, 0, 0)).toArray 24)
        have A0 := E0.drew.alloc (.cells (rgv reg0 (none, 0, 0)).toArray 24)
        have A1 := E1.drew.alloc (.cells (rgv reg0 (none, 0, 0)).toArray 24)
        have A2 := E2.drew.alloc (.cells (rgv reg0 (none, 0, 0)).toArray 24)
        have hsz : (w3.drew.alloc (.cells (rgv reg0 (none, 0, 0)).toArray 24)).heap.size = w3.heap.size + 1 := by simp
        have hC := clone_any x.ents x.es.1 x.es.2.2 (w3.drew.alloc (.cells (rgv reg0 (none, 0, 0)).toArray 24)) (HLE.out _ hwA) (by omega)
        have HC := Lib.hid hC
        clear hC
        apply EffT.go
        · rfl
        intro KE hKE
        go_wp2_with fail
        refine hKE _ _ (hTP' _ ⟨hwA, A1⟩) ?_
        clear hKE KE
        apply SeqT.one
        apply EffT.go
        · rfl
        intro KE hKE
        go_wp2_with fail
        refine HC.out.mono ?_
        rintro e w4 ⟨v, rfl, hRv, hb⟩
        obtain ⟨s, rfl, hs⟩ := hRv.log
        have hwhere := Row.where_ hRv
        have hw4 := below_trans hwA hb hwA.size
        have F0 := A0.keep hb
        have F1 := A1.keep hb
        have F2 := A2.keep hb
        have Z1 := ZZ.keep hb
        refine hKE _ _ (hTP' _ ⟨hw4, F1⟩) ?_
        clear hKE KE hb A0 A1 A2 ZZ HC
        go_wp2_with (first
          | (apply SeqT.skip; rfl; simp only [Act.put, List.setIfInBounds_toArray, List.set_cons_zero, List.set_cons_succ])
          | (apply SeqT.pure; rfl; (intro w2 hw; have hw := hTP _ hw; (have z2 := hw.2.cell 2; have z3 := hw.2.cell 3; have z5 := hw.2.cell 5; have z6 := hw.2.cell 6; simp [rcv] at z2 z3 z5 z6); go_simp; with_reducible rfl); simp only [Act.put, List.setIfInBounds_toArray, List.set_cons_zero, List.set_cons_succ]))
        apply SeqT.one
        apply EffT.go
        · rfl
        intro KE hKE
        refine wp_store_blk 24 _ _ rfl _ (rgv ⟨x.epoch, x.view, x.ents, x.len⟩ s) rfl rfl _ _ Z1 rg_info rfl (rgv_one _ _) ?_
        intro w5 B5 hb5 hk5
        have hw5 := hw4.trans (hb5 _ hz3)
        have P0 := hk5 _ _ _ (by show w.heap.size ≠ w3.heap.size; omega) F0
        have P1 := hk5 _ _ _ (by show w.heap.size + 1 ≠ w3.heap.size; omega) F1
        have P2 := hk5 _ _ _ (by show w.heap.size + 1 + 1 ≠ w3.heap.size; omega) F2
        have hsl := (hRv.blkFar hk5 (by rw [hsz]; exact Nat.lt_succ_self _)).logAt
        have hwh : ∀ b o, s.1 = some ⟨b, o, none⟩ → w.heap.size + 1 + 1 < b := by
          intro b o hb
          rcases hwhere with h | ⟨g, h, hg⟩
          · rw [h] at hb; cases hb
          · rw [h] at hb; cases hb; rw [hsz] at hg; omega
        have hgt : w.heap.size + 1 + 1 < w3.heap.size := by omega
        refine hKE _ _ (hTP' _ ⟨hw5, P1⟩) ?_
        clear hKE KE
        go_wp2_with (first
          | (apply SeqT.skip; rfl; simp only [Act.put, List.setIfInBounds_toArray, List.set_cons_zero, List.set_cons_succ])
          | (apply SeqT.pure; rfl; (intro w2 hw; have hw := hTP _ hw; (have z2 := hw.2.cell 2; have z3 := hw.2.cell 3; have z5 := hw.2.cell 5; have z6 := hw.2.cell 6; simp [rcv] at z2 z3 z5 z6); go_simp; with_reducible rfl); simp only [Act.put, List.setIfInBounds_toArray, List.set_cons_zero, List.set_cons_succ]))
        apply SeqT.done
        clear hb5 hk5 F0 F1 F2 Z1
        have B5' : Blk w5 w3.heap.size 24 (rgv ⟨x.epoch, x.view, x.ents, x.len⟩ s) := B5
        clear B5
        generalize w3.heap.size = gg at B5' hgt ⊢
        exact HK gg s _ ⟨hw5, P0, P1, P2, B5', hsl, hwh, hgt⟩
    · intro g s w5 hI
      refine hKP _ _ (hTP' _ ⟨hI.1, hI.2.2.1⟩) ?_
      clear hKP hTP hTP' E0 E1 E2 x0 r0 fr lE1 lE0
      obtain ⟨hw5, P0, P1, P2, PG, hsl, hwh, hgt⟩ := hI
      have hz5 := hw5.size
      have r0 : w5.cell? ⟨w.heap.size, 0, none⟩ = some (.int .i64 r.prom) := P0.cell 0
      have lP0 := P0.lt
      have lPG := PG.lt
      by_cases hp : r.prom = 0
      · have hpb : (r.prom == 0) = true := by rw [beq_iff_eq]; exact hp
        have HP := Lib.hid hp
        clear hp
        go_wp2_with ((with_reducible refine at_list ?_); refine wpList_load_blk_g 24 _ rfl rfl _ rfl _ _ _ (PG) Try.underlying24 rfl rg_info ?_)
        refine (check15_any ⟨x.epoch, x.view, x.ents, x.len⟩ s w5 hsl).mono ?_
        rintro e w6 ⟨rfl, hb⟩
        have hw6 := below_trans hw5 hb hz5
        have Q0 := P0.keep hb
        have Q2 := P2.keep hb
        have QG := PG.keep hb
        have hs6 := hsl.keep hb
        have hz6 := hw6.size
        clear hb P0 P1 P2 PG r0 hsl
        cases hm2 : mayR ⟨x.epoch, x.view, x.ents, x.len⟩ with
        | false =>
          have hN : applyR r x.s = none := by rw [HA.out, if_neg (fun h => by rw [hm2] at h; cases h.2)]
          have HN := Lib.hid hN
          clear hN hm2
          go_wp2_with ((with_reducible refine at_list ?_); first | refine wpList_load_blk rfl 24 _ rfl _ rfl _ _ _ (QG) Try.underlying24 rfl rg_info ?_ | (refine wpList_store_own rfl 24 _ _ rfl _ (rgv _ s) rfl rfl _ _ (Q0) rg_info rfl (rgv_one _ _) ?_; intro w7 B7 g7) | (refine wpList_store_own rfl 24 _ _ rfl _ (rgv reg0 (none, 0, 0)) rfl rfl _ _ (Q2.grown g7 (fun e => by have := Option.some.inj e; omega)) rg_info rfl (rgv_one _ _) ?_; intro w8 B8 g8))
          have hw7 := hw6.trans (below_grown g7 (Nat.le_refl _) hz6)
          have hw8 := hw7.trans (below_grown g8 (by omega) hw7.size)
          apply ret_of
          · exact results_blk_tmp rfl _ _ _ _ _ _ rfl (B8) Try.underlying24 rfl rg_info _ rfl
          · exact ⟨rfl, AppP.no HN.out rfl hw8⟩
        | true =>
          have hN : applyR r x.s = some ⟨x.epoch, x.view, x.ents, x.len⟩ := by rw [HA.out, if_pos ⟨HP.out, hm2⟩]
          have HN := Lib.hid hN
          clear hN hm2
          go_wp2_with ((with_reducible refine at_list ?_); first | refine wpList_load_blk rfl 24 _ rfl _ rfl _ _ _ (QG) Try.underlying24 rfl rg_info ?_ | (refine wpList_store_own rfl 24 _ _ rfl _ (rgv _ s) rfl rfl _ _ (Q0) rg_info rfl (rgv_one _ _) ?_; intro w7 B7 g7) | refine wpList_load_blk rfl 24 _ rfl _ rfl _ _ _ (B7) Try.underlying24 rfl rg_info ?_ | (refine wpList_store_own rfl 24 _ _ rfl _ (rgv _ s) rfl rfl _ _ (Q2.grown g7 (fun e => by have := Option.some.inj e; omega)) rg_info rfl (rgv_one _ _) ?_; intro w8 B8 g8))
          have hw7 := hw6.trans (below_grown g7 (Nat.le_refl _) hz6)
          have hw8 := hw7.trans (below_grown g8 (by omega) hw7.size)
          have hs7 := hs6.apart (Nat.le_refl _) g7 (fun b o h => by have := hwh b o h; omega)
          have hs8 := hs7.apart (Nat.le_refl _) g8 (fun b o h => by have := hwh b o h; omega)
          apply ret_of
          · exact results_blk_tmp rfl _ _ _ _ _ _ rfl (B8) Try.underlying24 rfl rg_info _ rfl
          · exact ⟨rfl, AppP.yes HN.out s rfl hs8 (fun b o h => by have := hwh b o h; omega) hw8⟩
      · have hpb : (r.prom == 0) = false := by rw [beq_eq_false_iff_ne]; exact hp
        have hN : applyR r x.s = none := by rw [HA.out, if_neg (fun h => hp h.1)]
        have HN := Lib.hid hN
        clear hN hp
        go_wp2_with ((with_reducible refine at_list ?_); first | refine wpList_load_blk rfl 24 _ rfl _ rfl _ _ _ (PG) Try.underlying24 rfl rg_info ?_ | (refine wpList_store_own rfl 24 _ _ rfl _ (rgv _ s) rfl rfl _ _ (P0) rg_info rfl (rgv_one _ _) ?_; intro w7 B7 g7) | (refine wpList_store_own rfl 24 _ _ rfl _ (rgv reg0 (none, 0, 0)) rfl rfl _ _ (P2.grown g7 (fun e => by have := Option.some.inj e; omega)) rg_info rfl (rgv_one _ _) ?_; intro w8 B8 g8))
        have hw7 := hw5.trans (below_grown g7 (Nat.le_refl _) hz5)
        have hw8 := hw7.trans (below_grown g8 (by omega) hw7.size)
        apply ret_of
        · exact results_blk_tmp rfl _ _ _ _ _ _ rfl (B8) Try.underlying24 rfl rg_info _ rfl
        · exact ⟨rfl, AppP.no HN.out rfl hw8⟩
  have HN := Lib.hid (apply_else (r := r) (x := x.s) k1 k2 k3 k4)
  have b1 : (x.kind == 1) = false := by rw [beq_eq_false_iff_ne]; exact k1
  have b2 : (x.kind == 2) = false := by rw [beq_eq_false_iff_ne]; exact k2
  have b3 : (x.kind == 3) = false := by rw [beq_eq_false_iff_ne]; exact k3
  have b4 : (x.kind == 4) = false := by rw [beq_eq_false_iff_ne]; exact k4
  go_wp2_with ((with_reducible refine at_list ?_); (refine wpList_store_own rfl 24 _ _ rfl _ (rgv reg0 (none, 0, 0)) rfl rfl _ _ (E2) rg_info rfl (rgv_one _ _) ?_; intro w8 B8 g8))
  have hw8 := hw3.trans (below_grown g8 (by omega) hz3)
  apply ret_of
  · exact results_blk_tmp rfl _ _ _ _ _ _ rfl (B8) Try.underlying24 rfl rg_info _ rfl
  · exact ⟨rfl, AppP.no HN.out rfl hw8⟩

theorem apply_any (r : RegS) (sl : SlcE) (x : RecV) (w : World) (hl : LogAt w w.heap.size sl r.log) (hx : LogAt w w.heap.size x.es x.ents) (hx2 : x.ents.length ≤ 1000) :
    Calls Try.prog 16 #[.agg (rgv r sl).toArray, .agg (rcv x).toArray] w (AppP r x.s w) := by
  cases hm : mayR r with
  | false => exact apply_off r sl x w hm hl
  | true => exact apply_on r sl x w hm hl hx hx2
end Go.Proofs.Ytbicefilfhcgoaa

set_option linter.unusedSimpArgs false
set_option linter.unusedVariables false
set_option maxRecDepth 100000
namespace Go.Proofs.Ytbicefilfhcgoaa
open Go Go.RowKit Go.Sq Go.Wd Go.Arch

set_option maxHeartbeats 4000000 in
theorem may_any (r : RegS) (sl : SlcE) (x : RecV) (w : World) (hl : LogAt w w.heap.size sl r.log) (hx : LogAt w w.heap.size x.es x.ents) (hx2 : x.ents.length ≤ 1000) :
    Calls Try.prog 20 #[.agg (rgv r sl).toArray, .agg (rcv x).toArray] w fun e w' => e = .returned (.bool (applyR r x.s).isSome) ∧ Below w.heap.size w w' := by
  have hz : Below w.heap.size w ((w.alloc (.cells (rgv r sl).toArray 24)).alloc (.cells (rcv x).toArray 27)) := ((Below.refl _ _).alloc (Nat.le_refl _) _).alloc (by simp) _
  have B0 : Blk ((w.alloc (.cells (rgv r sl).toArray 24)).alloc (.cells (rcv x).toArray 27)) w.heap.size 24 (rgv r sl) := (Blk.new w _ _).alloc _
  have B1 : Blk ((w.alloc (.cells (rgv r sl).toArray 24)).alloc (.cells (rcv x).toArray 27)) (w.heap.size + 1) 27 (rcv x) := Blk.newAt _ _ _ (by simp)
  have HH := Lib.hid (And.intro hz (And.intro B0 (And.intro B1 (And.intro (hl.keep hz) (hx.keep hz)))))
  clear hz B0 B1 hl hx
  have hr : (regR (applyR r x.s)).2 = (applyR r x.s).isSome := by cases applyR r x.s <;> rfl
  have HR := Lib.hid hr
  clear hr
  go_enter Try.func20, Try.ntmps20
  go_wp2_with ((with_reducible refine at_list ?_); first | refine wpList_load_blk rfl 24 _ rfl _ rfl _ _ _ (HH.out.2.1) Try.underlying24 rfl rg_info ?_ | refine wpList_load_blk rfl 27 _ rfl _ rfl _ _ _ (HH.out.2.2.1) Try.underlying27 rfl rc_info ?_)
  refine (apply_any r sl x _ HH.out.2.2.2.1 HH.out.2.2.2.2 hx2).mono ?_
  rintro e w1 ⟨s, rfl, hL, hb⟩
  have hw1 := below_trans HH.out.1 hb HH.out.1.size
  have hz1 := hw1.size
  clear hb hL HH
  go_wp2_with ((with_reducible refine at_list ?_); (refine wpList_store_own rfl 24 _ _ rfl _ (rgv _ s) rfl rfl _ _ (Blk.new w1 24 (rgv reg0 (none, 0, 0))) rg_info rfl (rgv_one _ _) ?_; intro w8 B8 g8))
  have hw8 := (hw1.alloc hz1 (.cells (rgv reg0 (none, 0, 0)).toArray 24)).trans (below_grown g8 hz1 (by simp; omega))
  go_ret
  rw [HR.out]
  exact ⟨rfl, hw8⟩
end Go.Proofs.Ytbicefilfhcgoaa

set_option linter.unusedSimpArgs false
set_option linter.unusedVariables false
set_option maxRecDepth 100000
namespace Go.Proofs.Ytbicefilfhcgoaa
open Go Go.RowKit Go.Sq Go.Wd Go.Arch

set_option maxHeartbeats 4000000 in
theorem samereg_any (r q : RegS) (sl sq : SlcE) (w : World) (hl : LogAt w w.heap.size sl r.log) (hq : LogAt w w.heap.size sq q.log) (he : r = q) :
    Calls Try.prog 21 #[.agg (rgv r sl).toArray, .agg (rgv q sq).toArray] w fun e w' => e = .returned (.bool true) ∧ Below w.heap.size w w' := by
  subst he
  obtain ⟨A, n, c⟩ := sl
  obtain ⟨B, m, d⟩ := sq
  obtain rfl : n = r.log.length := hl.1
  obtain rfl : m = r.log.length := hq.1
  have hle : r.log.length ≤ 9223372036854775807 := Nat.le_trans hl.2.1 hl.2.2.1
  have hz : Below w.heap.size w ((w.alloc (.cells (rgv r (A, r.log.length, c)).toArray 24)).alloc (.cells (rgv r (B, r.log.length, d)).toArray 24)) := ((Below.refl _ _).alloc (Nat.le_refl _) _).alloc (by simp) _
  have hs := same_any r.log r.log A B c d _ (hl.keep hz).2.2.2 (hq.keep hz).2.2.2 hle hle
  have HH := Lib.hid (And.intro hz hs)
  clear hz hs hl hq
  unfold rgv at HH ⊢
  go_enter Try.func21, Try.ntmps21
  go_wp2_with fail
  refine HH.out.2.mono ?_
  rintro e w1 ⟨rfl, hb⟩
  have hw1 := below_trans HH.out.1 hb HH.out.1.size
  clear hb HH
  go_wp2_with fail
  go_ret
  exact ⟨by simp, hw1⟩
end Go.Proofs.Ytbicefilfhcgoaa

set_option linter.unusedSimpArgs false
set_option linter.unusedVariables false
set_option maxRecDepth 100000
namespace Go.Proofs.Ytbicefilfhcgoaa
open Go Go.RowKit Go.Sq Go.Wd Go.Arch

theorem wp_store_own {P : Program} {w : World} {o : Oper} {a : Act} {K : Act → World → Prop} {Q : Exit → Act → World → Prop} (ty : TypeId) (x y : Operand) (ho : o.op = .store ty x y)
    (g : Nat) (cs : List Value) (hx : a.eval x = .pointer (some ⟨g, 0, none⟩)) (hy : a.eval y = .agg cs.toArray) (t : TypeId) (old : List Value) (hg : Blk w g t old)
    (hi : (P.info? ty).map (·.size) = some cs.length) (hold : old.length = cs.length) (h1 : ∀ v ∈ cs, v.oneCell' = true)
    (h : ∀ w', Blk w' g t cs → w.grownBy w' (some g) → K (a.put o.dst undef) w') : o.wp P a w K Q :=
  wp_store_row ty x y ho g cs.toArray hx hy t old.toArray hg (by simpa using hi) (by simpa using hold)
    (Array.all_eq_true_iff_forall_mem.2 (fun v hv => h1 v (by simpa using hv)))
    (h _ (hg.row cs) (grown_setRow w g _))
/-- A log does not lie in a block that is shorter than an entry. -/
theorem LogAt.stored {w w' : World} {g : Nat} {T : TypeId} {cs : List Value} {sl : SlcE} {l : List Ent} (h : LogAt w w.heap.size sl l) (hZ : Blk w g T cs) (hc : cs.length ≤ 5) (hg : w.grownBy w' (some g)) : LogAt w' w'.heap.size sl l := by
  rcases Nat.eq_zero_or_pos l.length with h0 | h0
  · obtain rfl : l = [] := List.eq_nil_of_length_eq_zero h0
    exact ⟨h.1, h.2.1, h.2.2.1, Ents.nil⟩
  · refine h.apart (Nat.le_refl _) hg (fun b o ho hbg => ?_)
    subst hbg
    obtain ⟨b2, off, ha, hb, hE⟩ := h.2.2.2 h0
    rw [ho] at ha
    cases ha
    obtain ⟨_, _, _, _, _, h5⟩ := hE 0 _ (List.getElem?_eq_getElem h0)
    rw [hZ.cell, List.getElem?_eq_none (by omega)] at h5
    cases h5
/-- Blocks that hold registers. -/
def HeldR (w : World) (L : List (Nat × RegS × SlcE)) : Prop := ∀ q ∈ L, Blk w q.1 24 (rgv q.2.1 q.2.2) ∧ LogAt w w.heap.size q.2.2 q.2.1.log
theorem HeldR.nil {w : World} : HeldR w [] := by intro q hq; cases hq
theorem HeldR.add {w : World} {L : List (Nat × RegS × SlcE)} {g : Nat} {r : RegS} {s : SlcE} (h : HeldR w L) (hb : Blk w g 24 (rgv r s)) (hl : LogAt w w.heap.size s r.log) : HeldR w ((g, r, s) :: L) := by
  intro q hq
  rcases List.mem_cons.1 hq with rfl | hq
  · exact ⟨hb, hl⟩
  · exact h q hq
theorem HeldR.keep {w w' : World} {L : List (Nat × RegS × SlcE)} (h : HeldR w L) (hb : Below w.heap.size w w') : HeldR w' L := fun q hq => ⟨(h q hq).1.keep hb, (h q hq).2.keep hb⟩
theorem HeldR.drew {w : World} {L : List (Nat × RegS × SlcE)} (h : HeldR w L) : HeldR w.drew L := h.keep (Below.refl _ _).drew
theorem HeldR.blk {w : World} {L : List (Nat × RegS × SlcE)} (h : HeldR w L) (k : Nat) {q : Nat × RegS × SlcE} (hq : L[k]? = some q) : Blk w q.1 24 (rgv q.2.1 q.2.2) := (h q (List.mem_of_getElem? hq)).1
theorem HeldR.log {w : World} {L : List (Nat × RegS × SlcE)} (h : HeldR w L) (k : Nat) {q : Nat × RegS × SlcE} (hq : L[k]? = some q) : LogAt w w.heap.size q.2.2 q.2.1.log := (h q (List.mem_of_getElem? hq)).2

/-- A new variable that holds what was told. -/
theorem below_new {w w' : World} {o : Obj} (hg : (w.alloc o).grownBy w' (some w.heap.size)) : Below w.heap.size w w' := ((Below.refl _ _).alloc (Nat.le_refl _) o).trans (below_grown hg (Nat.le_refl _) (by simp))

/-- A continuation of a drawn region's step, with the world behind a letter. -/
theorem eff_abs {K' : Act → World → Prop} {T : World → Prop} {W : Act → World → Prop} {a : Act} {w1 : World} (hKE : ∀ a' w', T w' → W a' w' → K' a' w') (J : World → Prop) (hJ : J w1) (hT : ∀ w', J w' → T w') (h : ∀ w', J w' → W a w') : K' a w1 := hKE _ _ (hT _ hJ) (h _ hJ)
theorem merge3 {G : Prop} (Inv : Nat → Nat → SlcE → World → Prop) (K : Act → World → Prop) {F : Nat → Nat → SlcE → Act} (h1 : (∀ g k s w', Inv g k s w' → K (F g k s) w') → G) (h2 : ∀ g k s w', Inv g k s w' → K (F g k s) w') : G := h1 h2

theorem apply_to {r a : RegS} (sl : SlcE) (x : RecV) (w : World) (h : applyR r x.s = some a) (hl : LogAt w w.heap.size sl r.log) (hx : LogAt w w.heap.size x.es x.ents) (hx2 : x.ents.length ≤ 1000) :
    Calls Try.prog 16 #[.agg (rgv r sl).toArray, .agg (rcv x).toArray] w fun e w' => ∃ s : SlcE, e = .returned (.tuple #[.agg (rgv a s).toArray, .bool true]) ∧ LogAt w' w'.heap.size s a.log ∧ Below w.heap.size w w' := by
  refine (apply_any r sl x w hl hx hx2).mono ?_
  rintro e w1 ⟨s, he, hL, hb⟩
  rw [h] at he hL
  exact ⟨s, he, hL.1, hb⟩
/-- And it lies in memory of its own. -/
theorem apply_own {r a : RegS} (sl : SlcE) (x : RecV) (w : World) (h : applyR r x.s = some a) (hl : LogAt w w.heap.size sl r.log) (hx : LogAt w w.heap.size x.es x.ents) (hx2 : x.ents.length ≤ 1000) :
    Calls Try.prog 16 #[.agg (rgv r sl).toArray, .agg (rcv x).toArray] w fun e w' => ∃ s : SlcE, e = .returned (.tuple #[.agg (rgv a s).toArray, .bool true]) ∧ (LogAt w' w'.heap.size s a.log ∧ ∀ b o, s.1 = some ⟨b, o, none⟩ → w.heap.size ≤ b) ∧ Below w.heap.size w w' := by
  refine (apply_any r sl x w hl hx hx2).mono ?_
  rintro e w1 ⟨s, he, hL, hb⟩
  rw [h] at he hL
  exact ⟨s, he, hL, hb⟩
theorem may_to {r : RegS} (b : Bool) (sl : SlcE) (x : RecV) (w : World) (h : (applyR r x.s).isSome = b) (hl : LogAt w w.heap.size sl r.log) (hx : LogAt w w.heap.size x.es x.ents) (hx2 : x.ents.length ≤ 1000) :
    Calls Try.prog 20 #[.agg (rgv r sl).toArray, .agg (rcv x).toArray] w fun e w' => e = .returned (.bool b) ∧ Below w.heap.size w w' := by
  rw [← h]
  exact may_any r sl x w hl hx hx2

theorem entry15_any (id ep : Int) (w : World) :
    Calls Try.prog 25 #[.int .i64 id, .int .i64 ep] w fun e w' => e = .returned (.agg (vals (ep, id, 0, -1, 2, 1)).toArray) ∧ Below w.heap.size w w' := by
  have hw := Below.refl w.heap.size w
  unfold vals
  go_enter Try.func25, Try.ntmps25
  go_wp2_with fail
  apply ret_of
  · simp only [results, Try.results25]
    go_simp
    with_reducible rfl
  refine ⟨rfl, ?_⟩
  exact ⟨rfl, by (repeat (first | with_reducible apply Below.drew | with_reducible refine Below.setCell ?_ (by first | exact Nat.le_refl _ | (simp; done) | (simp; omega) | omega) _ | with_reducible refine Below.alloc ?_ (by first | exact Nat.le_refl _ | (simp; done) | (simp; omega) | omega) _ | with_reducible exact Below.refl _ _ | with_reducible assumption))⟩

theorem great15_any (x : RecV) (w : World) (hx : LogAt w w.heap.size x.es x.ents) :
    Calls Try.prog 14 #[.agg (rcv x).toArray] w fun e w' => e = .returned (.bool (decide (200 < x.ents.length))) ∧ Below w.heap.size w w' := by
  have hw := Below.refl w.heap.size w
  have hl := hx.1
  unfold rcv
  rw [hl]
  clear hl hx
  have hd : decide ((200 : Int) < (x.ents.length : Int)) = decide (200 < x.ents.length) := decide_eq_decide.2 (by omega)
  go_enter Try.func14, Try.ntmps14
  go_wp2_with fail
  go_ret
  exact ⟨ret_bool (by first | exact hd | rfl | simp), hw.alloc (Nat.le_refl _) _⟩

/-- One literal entry. -/
theorem lit_log (w : World) (e : Ent) : LogAt (w.alloc (.cells (vals e).toArray 44)) (w.alloc (.cells (vals e).toArray 44)).heap.size (some ⟨w.heap.size, 0, none⟩, 1, 1) [e] := by
  have hb := Blk.new w 44 (vals e)
  refine ⟨rfl, Nat.le_refl _, by simp, fun _ => ⟨_, 0, rfl, hb.lt, fun i x hx => ?_⟩⟩
  have hi := (List.getElem?_eq_some_iff.1 hx).1
  obtain rfl : i = 0 := by simpa using hi
  cases hx
  exact ⟨hb.cell 0, hb.cell 1, hb.cell 2, hb.cell 3, hb.cell 4, hb.cell 5⟩
end Go.Proofs.Ytbicefilfhcgoaa
