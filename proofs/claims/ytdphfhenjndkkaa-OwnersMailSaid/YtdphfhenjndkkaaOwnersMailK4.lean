/-
  The walk over Add of a ballot.
  The contracts of slices.Sort and slices.Clone at []int, as the kit's tool lays them at this program, in plain words.
  The walk over epochs.Most: the library's Clone and Sort by their contracts.
  An owner: plain, in memory; its short functions.
  The walk over told of an owner: the library's Clone and DeleteFunc by their contracts.
  The walks over Commit, Until, Open, Target, Freeze of an owner.
  The walks over Open, Target, Freeze, Ack, Sure of an owner.
  The walks over mine, Ack of an owner.
  The plain laws of owners: what was told may come in any order, and twice.
  The walk over Sure of an owner.
-/
import Derived.Test.YtdphfhenjndkkaaProg
import Derived.Shelf.Sort.Plain
import Derived.Shelf.Slices.Clone
import Derived.Shelf.Slices.SearchI
import Derived.Ground.Names2Prog
import Derived.Ground.SlgnProg
import Derived.Shelf.SlicesE.DeleteFunc
import Derived.Ground.SlgfProg
import Derived.Lib.OwnBridge
import Derived.Sort.Grow
import Derived.Sort.OwnSortedInts
import Derived.Test.YtdphfhenjndkkaaOwnersMailK1
import Derived.Test.YtdphfhenjndkkaaOwnersMailK2
import Derived.Test.YtdphfhenjndkkaaOwnersMailK3
set_option linter.unusedSimpArgs false
set_option linter.unusedVariables false
set_option maxRecDepth 100000
namespace Go.Proofs.Ytdphfhenjndkkaa
open Go Go.RowKit Go.Sq Go.Wd Go.Arch

/-- What Add leaves. -/
def AddPost (b : BegS) (S : Slots) (g B : Nat) (m : MailS) (w : World) (e : Ending) (w' : World) : Prop :=
  e = .returned (.bool (decide (addOk b S m))) ∧ BalAt w' B g b (addS b S m) ∧ Kept w w' (some g) none

/-- Both blocks. -/
def AddW (w w' : World) (g : Nat) (b : BegS) (S : Slots) (sl : Sls) (x : MailV) : Prop := Below w.heap.size w w' ∧ Blk w' w.heap.size 43 (mailv x) ∧ Blk w' g 133 (balv b S sl)
theorem AddW.cells {w w' : World} {g : Nat} {b : BegS} {S : Slots} {sl : Sls} {x : MailV} (h : AddW w w' g b S sl x) :
    (w'.cell? ⟨w.heap.size, 0, none⟩ = some (.int .i64 x.m.kind) ∧ w'.cell? ⟨w.heap.size, 1, none⟩ = some (.int .i64 x.m.from_) ∧ w'.cell? ⟨w.heap.size, 2, none⟩ = some (.int .i64 x.m.to) ∧ w'.cell? ⟨w.heap.size, 3, none⟩ = some (.int .i64 x.m.stream) ∧
     w'.cell? ⟨w.heap.size, 4, none⟩ = some (.int .i64 x.m.epoch) ∧ w'.cell? ⟨w.heap.size, 8, none⟩ = some (.int .i64 x.m.stamp)) ∧
    (w'.cell? ⟨g, 0, none⟩ = some (.int .i64 b.stream) ∧ w'.cell? ⟨g, 1, none⟩ = some (.int .i64 b.epoch) ∧ w'.cell? ⟨g, 2, none⟩ = some (.int .i64 b.site) ∧ w'.cell? ⟨g, 3, none⟩ = some (.int .i64 b.n) ∧ w'.cell? ⟨g, 4, none⟩ = some (.int .i64 b.stamp)) ∧
    ∀ k, k < 7 → w'.cell? ⟨g, 5 + k, none⟩ = some (.bool (S k).isSome) := by
  obtain ⟨_, h1, h2⟩ := h
  refine ⟨⟨h1.cell 0, h1.cell 1, h1.cell 2, h1.cell 3, h1.cell 4, h1.cell 8⟩, ⟨h2.cell 0, h2.cell 1, h2.cell 2, h2.cell 3, h2.cell 4⟩, fun k hk => ?_⟩
  rw [h2.cell, balv_had b S sl hk]

theorem add_no {b : BegS} {S : Slots} {g B : Nat} {m : MailS} {w w' : World} (h : ¬ addOk b S m) (hb : BalAt w' B g b S) (hk : Kept w w' (some g) none) : AddPost b S g B m w (.returned (.bool false)) w' := by
  refine ⟨ret_bool (by rw [decide_eq_false h]), ?_, hk⟩
  unfold addS
  rw [if_neg h]
  exact hb

set_option maxHeartbeats 8000000 in
theorem add_any (B g : Nat) (b : BegS) (S : Slots) (x : MailV) (w : World) (H : BalAt w B g b S) (hB : B ≤ w.heap.size) (hn : sitesE b.n = true) (hl : LogAt w w.heap.size x.es x.m.ents) (h2 : x.m.ents.length ≤ 2000) :
    Calls Try.prog 52 #[.pointer (some ⟨g, 0, none⟩), .agg (mailv x).toArray] w fun e w' => AddPost b S g B x.m w e w' := by
  obtain ⟨sl, hb, hr⟩ := H
  have hz : Below w.heap.size w (w.alloc (.cells (mailv x).toArray 43)) := (Below.refl _ _).alloc (Nat.le_refl _) _
  have hA : AddW w (w.alloc (.cells (mailv x).toArray 43)) g b S sl x := ⟨hz, Blk.new w _ _, hb.keep hz⟩
  have hn0 : (b.n == 0) = false := by
    rw [beq_eq_false_iff_ne]
    rcases sites_cases hn with e | e | e | e | e | e <;> omega
  have HH := Lib.hid (And.intro hA (And.intro hr (And.intro hl hn)))
  have hg := hb.lt
  clear hA hr hl hz hb
  unfold sitesE at hn
  simp only [decide_eq_true_eq] at hn
  by_cases hp : addPre b S x.m
  case pos =>
    have HP := Lib.hid hp
    obtain ⟨p1, p2, p3, p4, p5, p6, p7, p8⟩ := hp
    obtain ⟨K, hK⟩ := Int.eq_ofNat_of_zero_le p5
    have hK7 : K < 7 := by omega
    have e1 : (x.m.kind != 2) = false := by simpa using p1
    have e2 : (x.m.stream != b.stream) = false := by simpa using p2
    have e3 : (x.m.epoch != b.epoch) = false := by simpa using p3
    have e4 : (x.m.to != b.site) = false := by simpa using p4
    have e8 : (x.m.stamp != b.stamp) = false := by simpa using p8
    have e5 : ¬ (K : Int) < 0 := by omega
    have e6 : ¬ b.n ≤ (K : Int) := by omega
    have e7 : (0 : Int) ≤ (K : Int) := by omega
    have e5' : decide ((K : Int) < 0) = false := decide_eq_false e5
    have e6' : decide (b.n ≤ (K : Int)) = false := by simpa using e6
    have e9 : (K : Int) < 7 := by omega
    have hSK : (S K).isSome = false := by
      have : x.m.from_.toNat = K := by omega
      rw [this] at p7
      rw [p7]
      rfl
    have HK := Lib.hid (And.intro hK hSK)
    have FC : ∀ w', AddW w w' g b S sl x → (w'.cell? ⟨w.heap.size, 0, none⟩ = some (.int .i64 x.m.kind) ∧ w'.cell? ⟨w.heap.size, 1, none⟩ = some (.int .i64 (K : Int)) ∧ w'.cell? ⟨w.heap.size, 2, none⟩ = some (.int .i64 x.m.to) ∧ w'.cell? ⟨w.heap.size, 3, none⟩ = some (.int .i64 x.m.stream) ∧
        w'.cell? ⟨w.heap.size, 4, none⟩ = some (.int .i64 x.m.epoch) ∧ w'.cell? ⟨w.heap.size, 8, none⟩ = some (.int .i64 x.m.stamp)) ∧
        (w'.cell? ⟨g, 0, none⟩ = some (.int .i64 b.stream) ∧ w'.cell? ⟨g, 1, none⟩ = some (.int .i64 b.epoch) ∧ w'.cell? ⟨g, 2, none⟩ = some (.int .i64 b.site) ∧ w'.cell? ⟨g, 3, none⟩ = some (.int .i64 b.n) ∧ w'.cell? ⟨g, 4, none⟩ = some (.int .i64 b.stamp)) ∧
        w'.cell? ⟨g, 5 + K, none⟩ = some (.bool false) := fun w' h => by
      have hc := h.cells
      rw [HK.out.1] at hc
      have h7 := hc.2.2 K hK7
      rw [HK.out.2] at h7
      exact ⟨hc.1, hc.2.1, h7⟩
    clear p1 p2 p3 p4 p5 p6 p7 p8 hK hSK
    go_enter Try.func52, Try.ntmps52
    go_wp2_with fail
    refine wp_region_p ([(0, true), (1, true), (2, true), (3, true), (4, true), (5, true), (6, true), (7, true), (8, true), (9, true), (10, true), (11, true), (12, true), (13, true), (14, true), (15, true), (16, true), (17, true), (18, true), (19, true), (20, true), (21, true), (22, true), (23, true), (24, true), (25, true), (26, true), (27, true), (28, true), (29, true), (30, true), (31, true), (32, true), (33, true), (34, true), (35, true), (36, true), (37, true), (38, true), (39, true), (40, true), (41, true), (42, true), (43, true), (44, true), (45, true), (46, true), (47, true), (48, true), (49, true), (50, true), (51, true), (52, true), (53, true), (54, true), (55, true), (56, true), (57, true), (58, true), (59, true), (60, true), (61, true), (62, true), (63, true), (64, true), (65, true)]) (fun w' => AddW w w' g b S sl x) (by kernel_rfl) rfl (by kernel_rfl) (by kernel_rfl) (⟨HH.out.1.1.drew, HH.out.1.2.1.drew, HH.out.1.2.2.drew⟩) rfl ?_
    intro KP RP TP hKP hTP hTP'
    simp only [List.append_eq, List.cons_append, List.nil_append, pick, nth]
    go_wp2_with (first
      | (apply SeqP.skip; rfl; simp only [Act.put, List.setIfInBounds_toArray, List.set_cons_zero, List.set_cons_succ])
      | (apply SeqP.call; rfl; rfl; (intro w2 hw; have hw := hTP _ hw; ((obtain ⟨⟨q0, q1, q2, q3, q4, q5⟩, ⟨r0, r1, r2, r3, r4⟩, t0⟩ := FC _ hw)); go_simp; exact ⟨rfl, rfl⟩); (intro w2 hw; have hw := hTP _ hw; ((obtain ⟨⟨q0, q1, q2, q3, q4, q5⟩, ⟨r0, r1, r2, r3, r4⟩, t0⟩ := FC _ hw)); (first | (go_at_call 80; refine (none_any g b.n _ (FC _ hw).2.1.2.2.2.1).mono ?_; rintro e w' ⟨rfl, rfl⟩; exact ⟨rfl, rfl⟩))); simp only [Act.put, List.setIfInBounds_toArray, List.set_cons_zero, List.set_cons_succ])
      | (apply SeqP.pure; rfl; (intro w2 hw; have hw := hTP _ hw; ((obtain ⟨⟨q0, q1, q2, q3, q4, q5⟩, ⟨r0, r1, r2, r3, r4⟩, t0⟩ := FC _ hw)); go_simp; with_reducible rfl); simp only [Act.put, List.setIfInBounds_toArray, List.set_cons_zero, List.set_cons_succ])
      | (apply SeqP.split; rfl; rfl; all_goals (intro hc; simp only [hc]; try simp only [beq_iff_eq, decide_eq_true_eq, beq_eq_false_iff_ne, decide_eq_false_iff_not, bne_iff_ne, ne_eq, Bool.not_eq_true', Bool.not_eq_false', Int.not_le, Int.not_lt, bne_eq_false_iff_eq, Bool.or_eq_true, Bool.and_eq_true, Bool.or_eq_false_iff] at hc)))
    apply SeqP.nil
    refine hKP _ _ (hTP' _ (⟨HH.out.1.1.drew, HH.out.1.2.1.drew, HH.out.1.2.2.drew⟩)) ?_
    clear hKP hTP hTP'
    refine abs_at (fun W => AddW w W g b S sl x) ⟨HH.out.1.1.drew, HH.out.1.2.1.drew, HH.out.1.2.2.drew⟩ ?_
    intro w1 hA1
    have m4 : w1.cell? ⟨w.heap.size, 4, none⟩ = some (.int .i64 x.m.epoch) := hA1.2.1.cell 4
    have m5 : w1.cell? ⟨w.heap.size, 5, none⟩ = some (.int .i64 x.m.view) := hA1.2.1.cell 5
    have m9 : w1.cell? ⟨w.heap.size, 9, none⟩ = some (.slice x.es.1 x.es.2.1 x.es.2.2) := hA1.2.1.cell 9
    have m7 : w1.cell? ⟨w.heap.size, 7, none⟩ = some (.int .i64 x.m.len) := hA1.2.1.cell 7
    have lm := hA1.2.1.lt
    have HA := Lib.hid hA1
    clear hA1 FC e1 e2 e3 e4 e5 e6 e7 e8 e9 e5' e6'
    go_wp2_with fail
    have g1 := HA.out.1.alloc HA.out.1.size (.cells (rgv x.m.reg x.es).toArray 37)
    have R1 := Blk.new w1 37 (rgv x.m.reg x.es)
    have A1 : AddW w (w1.alloc (.cells (rgv x.m.reg x.es).toArray 37)) g b S sl x := ⟨g1, HA.out.2.1.alloc _, HA.out.2.2.alloc _⟩
    have HA1 := Lib.hid (And.intro A1 R1)
    clear A1 R1 g1 m4 m5 m9 m7
    refine wp_region_p ([(0, true), (1, false), (2, true), (3, true), (4, true), (5, true), (6, true), (7, true), (8, true), (9, true), (10, true), (11, true)]) (fun w' => AddW w w' g b S sl x ∧ Blk w' w1.heap.size 37 (rgv x.m.reg x.es)) (by kernel_rfl) rfl (by kernel_rfl) (by kernel_rfl) (⟨⟨HA1.out.1.1.drew, HA1.out.1.2.1.drew, HA1.out.1.2.2.drew⟩, HA1.out.2.drew⟩) rfl ?_
    intro KP RP TP hKP hTP hTP'
    simp only [pick, nth]
    go_wp2_with (first
      | (apply SeqP.skip; rfl; simp only [Act.put, List.setIfInBounds_toArray, List.set_cons_zero, List.set_cons_succ])
      | (apply SeqP.pure; rfl; (intro w2 hw; have hw := hTP _ hw; exact exec_load_blk 37 _ rfl _ rfl _ _ hw.2 _ Try.underlying37 rfl rg_info); simp only [Act.put, List.setIfInBounds_toArray, List.set_cons_zero, List.set_cons_succ])
      | (apply SeqP.call; rfl; rfl; (intro w2 hw; have hw := hTP _ hw; (skip); go_simp; exact ⟨rfl, rfl⟩); (intro w2 hw; have hw := hTP _ hw; (skip); (first | fail)); simp only [Act.put, List.setIfInBounds_toArray, List.set_cons_zero, List.set_cons_succ])
      | (apply SeqP.pure; rfl; (intro w2 hw; have hw := hTP _ hw; (skip); go_simp; with_reducible rfl); simp only [Act.put, List.setIfInBounds_toArray, List.set_cons_zero, List.set_cons_succ])
      | (apply SeqP.split; rfl; rfl; all_goals (intro hc; simp only [hc]; try simp only [beq_iff_eq, decide_eq_true_eq, beq_eq_false_iff_ne, decide_eq_false_iff_not, bne_iff_ne, ne_eq, Bool.not_eq_true', Bool.not_eq_false', Int.not_le, Int.not_lt, bne_eq_false_iff_eq, Bool.or_eq_true, Bool.and_eq_true, Bool.or_eq_false_iff] at hc)))
    apply SeqP.eff
    · rfl
    intro KE hKE
    go_wp2_with fail
    refine (check15_any x.m.reg x.es _ (HH.out.2.2.1.keep HA1.out.1.1.drew)).mono ?_
    rintro e w2 ⟨rfl, hb⟩
    have hd := HA1.out.1.1.drew
    have hw2 := below_trans hd hb hd.size
    have A2 : AddW w w2 g b S sl x := ⟨hw2, HA1.out.1.2.1.drew.keep hb, HA1.out.1.2.2.drew.keep hb⟩
    have R2 : Blk w2 w1.heap.size 37 (rgv x.m.reg x.es) := HA1.out.2.drew.keep hb
    refine hKE _ _ (hTP' _ ⟨A2, R2⟩) ?_
    clear hKE hb hd HA1 HA
    have FR : ∀ w', AddW w w' g b S sl x ∧ Blk w' w1.heap.size 37 (rgv x.m.reg x.es) → w'.cell? ⟨w1.heap.size, 1, none⟩ = some (.int .i64 x.m.view) ∧ w'.cell? ⟨g, 1, none⟩ = some (.int .i64 b.epoch) := fun w' h => ⟨h.2.cell 1, h.1.2.2.cell 1⟩
    have H2 := Lib.hid (And.intro hw2 (And.intro A2 R2))
    clear hw2 A2 R2
    have hcases : (mayR x.m.reg = true ∧ x.m.view < b.epoch) ∨ mayR x.m.reg = false ∨ (mayR x.m.reg = true ∧ b.epoch ≤ x.m.view) := by
      cases mayR x.m.reg with
      | false => exact .inr (.inl rfl)
      | true => exact (Int.lt_or_le x.m.view b.epoch).elim (fun h => .inl ⟨rfl, h⟩) (fun h => .inr (.inr ⟨rfl, h⟩))
    rcases hcases with ⟨hm, hv⟩ | hm | ⟨hm, hv⟩
    · have HOK : Hid (addOk b S x.m) := Lib.hid ⟨HP.out, hm, hv⟩
      have hv1 : ¬ b.epoch ≤ x.m.view := by omega
      have hv2 : decide (b.epoch ≤ x.m.view) = false := by simpa using hv1
      rw [hm]
      clear hm
      go_wp2_with (first
        | (apply SeqP.skip; rfl; simp only [Act.put, List.setIfInBounds_toArray, List.set_cons_zero, List.set_cons_succ])
        | (apply SeqP.call; rfl; rfl; (intro w2 hw; have hw := hTP _ hw; ((obtain ⟨q0, q1⟩ := FR _ hw)); go_simp; exact ⟨rfl, rfl⟩); (intro w2 hw; have hw := hTP _ hw; ((obtain ⟨q0, q1⟩ := FR _ hw)); (first | fail)); simp only [Act.put, List.setIfInBounds_toArray, List.set_cons_zero, List.set_cons_succ])
        | (apply SeqP.pure; rfl; (intro w2 hw; have hw := hTP _ hw; ((obtain ⟨q0, q1⟩ := FR _ hw)); go_simp; with_reducible rfl); simp only [Act.put, List.setIfInBounds_toArray, List.set_cons_zero, List.set_cons_succ])
        | (apply SeqP.split; rfl; rfl; all_goals (intro hc; simp only [hc]; try simp only [beq_iff_eq, decide_eq_true_eq, beq_eq_false_iff_ne, decide_eq_false_iff_not, bne_iff_ne, ne_eq, Bool.not_eq_true', Bool.not_eq_false', Int.not_le, Int.not_lt, bne_eq_false_iff_eq, Bool.or_eq_true, Bool.and_eq_true, Bool.or_eq_false_iff] at hc)))
      apply SeqP.nil
      refine hKP _ _ (hTP' _ (⟨H2.out.2.1, H2.out.2.2⟩)) ?_
      clear hKP hTP hTP'
      have c1 : w2.cell? ⟨w.heap.size, 1, none⟩ = some (.int .i64 (K : Int)) := by
        rw [← HK.out.1]
        exact H2.out.2.1.2.1.cell 1
      clear FR
      go_wp2_with ((with_reducible refine at_list ?_); first | refine wpList_load_blk rfl 37 _ rfl _ rfl _ _ _ (H2.out.2.2) Try.underlying37 rfl rg_info ?_)
      refine (put_any g K b S sl x.m.reg x.es w2 H2.out.2.1.2.2 hK7 (HH.out.2.2.1.keep H2.out.1) h2).mono ?_
      rintro e w3 ⟨rfl, s', hB3, hR3, hK3⟩
      have HF := Lib.hid (And.intro hB3 (And.intro hR3 hK3))
      clear hB3 hR3 hK3 c1
      go_wp2_with fail
      go_ret
      have hfr : x.m.from_.toNat = K := by have := HK.out.1; omega
      have hsz := H2.out.1.size
      refine ⟨ret_bool (by rw [decide_eq_true HOK.out]), ?_, (Kept.ofBelow H2.out.1 _ _).trans HF.out.2.2⟩
      unfold addS
      rw [if_pos HOK.out, hfr]
      refine ⟨_, HF.out.1, fun i hi => ?_⟩
      by_cases hik : i = K
      · subst hik
        rw [upS_at, regOf_at]
        exact HF.out.2.1.base (by omega)
      · rw [upS_far _ _ hik, regOf_far _ _ hik]
        exact HF.out.2.2.own ((HH.out.2.1 i hi).keep H2.out.1) (fun q e => by cases e; exact blk_not H2.out.2.1.2.2 (by decide)) (fun q e => by cases e)
    · have HNO : Hid (¬ addOk b S x.m) := Lib.hid (fun h => by rw [h.2.1] at hm; cases hm)
      rw [hm]
      clear hm
      go_wp2_with (first
        | (apply SeqP.skip; rfl; simp only [Act.put, List.setIfInBounds_toArray, List.set_cons_zero, List.set_cons_succ])
        | (apply SeqP.call; rfl; rfl; (intro w2 hw; have hw := hTP _ hw; ((obtain ⟨q0, q1⟩ := FR _ hw)); go_simp; exact ⟨rfl, rfl⟩); (intro w2 hw; have hw := hTP _ hw; ((obtain ⟨q0, q1⟩ := FR _ hw)); (first | fail)); simp only [Act.put, List.setIfInBounds_toArray, List.set_cons_zero, List.set_cons_succ])
        | (apply SeqP.pure; rfl; (intro w2 hw; have hw := hTP _ hw; ((obtain ⟨q0, q1⟩ := FR _ hw)); go_simp; with_reducible rfl); simp only [Act.put, List.setIfInBounds_toArray, List.set_cons_zero, List.set_cons_succ])
        | (apply SeqP.split; rfl; rfl; all_goals (intro hc; simp only [hc]; try simp only [beq_iff_eq, decide_eq_true_eq, beq_eq_false_iff_ne, decide_eq_false_iff_not, bne_iff_ne, ne_eq, Bool.not_eq_true', Bool.not_eq_false', Int.not_le, Int.not_lt, bne_eq_false_iff_eq, Bool.or_eq_true, Bool.and_eq_true, Bool.or_eq_false_iff] at hc)))
      apply SeqP.nil
      refine hKP _ _ (hTP' _ (⟨H2.out.2.1, H2.out.2.2⟩)) ?_
      clear hKP hTP hTP'
      clear FR
      go_wp2_with fail
      go_ret
      refine ⟨ret_bool (by rw [decide_eq_false HNO.out]), ?_, Kept.ofBelow H2.out.1 _ _⟩
      unfold addS
      rw [if_neg HNO.out]
      exact ⟨sl, H2.out.2.1.2.2, fun i hi => (HH.out.2.1 i hi).keep H2.out.1⟩
    · have HNO : Hid (¬ addOk b S x.m) := Lib.hid (fun h => by have := h.2.2; omega)
      have hv2 : decide (b.epoch ≤ x.m.view) = true := by simpa using hv
      rw [hm]
      clear hm
      go_wp2_with (first
        | (apply SeqP.skip; rfl; simp only [Act.put, List.setIfInBounds_toArray, List.set_cons_zero, List.set_cons_succ])
        | (apply SeqP.call; rfl; rfl; (intro w2 hw; have hw := hTP _ hw; ((obtain ⟨q0, q1⟩ := FR _ hw)); go_simp; exact ⟨rfl, rfl⟩); (intro w2 hw; have hw := hTP _ hw; ((obtain ⟨q0, q1⟩ := FR _ hw)); (first | fail)); simp only [Act.put, List.setIfInBounds_toArray, List.set_cons_zero, List.set_cons_succ])
        | (apply SeqP.pure; rfl; (intro w2 hw; have hw := hTP _ hw; ((obtain ⟨q0, q1⟩ := FR _ hw)); go_simp; with_reducible rfl); simp only [Act.put, List.setIfInBounds_toArray, List.set_cons_zero, List.set_cons_succ])
        | (apply SeqP.split; rfl; rfl; all_goals (intro hc; simp only [hc]; try simp only [beq_iff_eq, decide_eq_true_eq, beq_eq_false_iff_ne, decide_eq_false_iff_not, bne_iff_ne, ne_eq, Bool.not_eq_true', Bool.not_eq_false', Int.not_le, Int.not_lt, bne_eq_false_iff_eq, Bool.or_eq_true, Bool.and_eq_true, Bool.or_eq_false_iff] at hc)))
      apply SeqP.nil
      refine hKP _ _ (hTP' _ (⟨H2.out.2.1, H2.out.2.2⟩)) ?_
      clear hKP hTP hTP'
      clear FR
      go_wp2_with fail
      go_ret
      refine ⟨ret_bool (by rw [decide_eq_false HNO.out]), ?_, Kept.ofBelow H2.out.1 _ _⟩
      unfold addS
      rw [if_neg HNO.out]
      exact ⟨sl, H2.out.2.1.2.2, fun i hi => (HH.out.2.1 i hi).keep H2.out.1⟩
  case neg =>
    have HNO : Hid (¬ addOk b S x.m) := Lib.hid (fun h => hp h.1)
    have HP := Lib.hid hp
    clear hp
    have FC : ∀ w', AddW w w' g b S sl x → (w'.cell? ⟨w.heap.size, 0, none⟩ = some (.int .i64 x.m.kind) ∧ w'.cell? ⟨w.heap.size, 1, none⟩ = some (.int .i64 x.m.from_) ∧ w'.cell? ⟨w.heap.size, 2, none⟩ = some (.int .i64 x.m.to) ∧ w'.cell? ⟨w.heap.size, 3, none⟩ = some (.int .i64 x.m.stream) ∧
        w'.cell? ⟨w.heap.size, 4, none⟩ = some (.int .i64 x.m.epoch) ∧ w'.cell? ⟨w.heap.size, 8, none⟩ = some (.int .i64 x.m.stamp)) ∧
        (w'.cell? ⟨g, 0, none⟩ = some (.int .i64 b.stream) ∧ w'.cell? ⟨g, 1, none⟩ = some (.int .i64 b.epoch) ∧ w'.cell? ⟨g, 2, none⟩ = some (.int .i64 b.site) ∧ w'.cell? ⟨g, 3, none⟩ = some (.int .i64 b.n) ∧ w'.cell? ⟨g, 4, none⟩ = some (.int .i64 b.stamp)) := fun w' h => ⟨h.cells.1, h.cells.2.1⟩
    by_cases e1p : x.m.kind = 2
    case neg =>
      have e1 : (x.m.kind != 2) = true := by simpa using e1p
      clear e1p
      go_enter Try.func52, Try.ntmps52
      go_wp2_with fail
      refine wp_region_p ([(0, true), (1, true), (2, true), (3, true), (4, true), (5, true), (6, true), (7, true), (8, true), (9, true), (10, true), (11, true), (12, true), (13, true), (14, true), (15, true), (16, true), (17, true), (18, true), (19, true), (20, true), (21, true), (22, true), (23, true), (24, true), (25, true), (26, true), (27, true), (28, true), (29, true), (30, true), (31, true), (32, true), (33, true), (34, true), (35, true), (36, true), (37, true), (38, true), (39, true), (40, true), (41, true), (42, true), (43, true), (44, true), (45, true), (46, true), (47, true), (48, true), (49, true), (50, true), (51, true), (52, true), (53, true), (54, true), (55, true), (56, true), (57, true), (58, true), (59, true), (60, true), (61, true), (62, true), (63, true), (64, true), (65, true)]) (fun w' => AddW w w' g b S sl x) (by kernel_rfl) rfl (by kernel_rfl) (by kernel_rfl) (⟨HH.out.1.1.drew, HH.out.1.2.1.drew, HH.out.1.2.2.drew⟩) rfl ?_
      intro KP RP TP hKP hTP hTP'
      simp only [List.append_eq, List.cons_append, List.nil_append, pick, nth]
      go_wp2_with (first
        | (apply SeqP.skip; rfl; simp only [Act.put, List.setIfInBounds_toArray, List.set_cons_zero, List.set_cons_succ])
        | (apply SeqP.call; rfl; rfl; (intro w2 hw; have hw := hTP _ hw; ((obtain ⟨⟨q0, q1, q2, q3, q4, q5⟩, ⟨r0, r1, r2, r3, r4⟩⟩ := FC _ hw)); go_simp; exact ⟨rfl, rfl⟩); (intro w2 hw; have hw := hTP _ hw; ((obtain ⟨⟨q0, q1, q2, q3, q4, q5⟩, ⟨r0, r1, r2, r3, r4⟩⟩ := FC _ hw)); (first | (go_at_call 80; refine (none_any g b.n _ (FC _ hw).2.2.2.2.1).mono ?_; rintro e w' ⟨rfl, rfl⟩; exact ⟨rfl, rfl⟩))); simp only [Act.put, List.setIfInBounds_toArray, List.set_cons_zero, List.set_cons_succ])
        | (apply SeqP.pure; rfl; (intro w2 hw; have hw := hTP _ hw; ((obtain ⟨⟨q0, q1, q2, q3, q4, q5⟩, ⟨r0, r1, r2, r3, r4⟩⟩ := FC _ hw)); go_simp; with_reducible rfl); simp only [Act.put, List.setIfInBounds_toArray, List.set_cons_zero, List.set_cons_succ])
        | (apply SeqP.split; rfl; rfl; all_goals (intro hc; simp only [hc]; try simp only [beq_iff_eq, decide_eq_true_eq, beq_eq_false_iff_ne, decide_eq_false_iff_not, bne_iff_ne, ne_eq, Bool.not_eq_true', Bool.not_eq_false', Int.not_le, Int.not_lt, bne_eq_false_iff_eq, Bool.or_eq_true, Bool.and_eq_true, Bool.or_eq_false_iff] at hc)))
      apply SeqP.nil
      refine hKP _ _ (hTP' _ (⟨HH.out.1.1.drew, HH.out.1.2.1.drew, HH.out.1.2.2.drew⟩)) ?_
      clear hKP hTP hTP'
      go_wp2_with fail
      go_ret
      exact add_no HNO.out ⟨sl, HH.out.1.2.2.drew, fun i hi => (HH.out.2.1 i hi).keep HH.out.1.1.drew⟩ (Kept.ofBelow HH.out.1.1.drew _ _)
    have e1 : (x.m.kind != 2) = false := by simpa using e1p
    have He1 := Lib.hid e1p
    clear e1p
    by_cases e2p : x.m.stream = b.stream
    case neg =>
      have e2 : (x.m.stream != b.stream) = true := by simpa using e2p
      clear e2p
      go_enter Try.func52, Try.ntmps52
      go_wp2_with fail
      refine wp_region_p ([(0, true), (1, true), (2, true), (3, true), (4, true), (5, true), (6, true), (7, true), (8, true), (9, true), (10, true), (11, true), (12, true), (13, true), (14, true), (15, true), (16, true), (17, true), (18, true), (19, true), (20, true), (21, true), (22, true), (23, true), (24, true), (25, true), (26, true), (27, true), (28, true), (29, true), (30, true), (31, true), (32, true), (33, true), (34, true), (35, true), (36, true), (37, true), (38, true), (39, true), (40, true), (41, true), (42, true), (43, true), (44, true), (45, true), (46, true), (47, true), (48, true), (49, true), (50, true), (51, true), (52, true), (53, true), (54, true), (55, true), (56, true), (57, true), (58, true), (59, true), (60, true), (61, true), (62, true), (63, true), (64, true), (65, true)]) (fun w' => AddW w w' g b S sl x) (by kernel_rfl) rfl (by kernel_rfl) (by kernel_rfl) (⟨HH.out.1.1.drew, HH.out.1.2.1.drew, HH.out.1.2.2.drew⟩) rfl ?_
      intro KP RP TP hKP hTP hTP'
      simp only [List.append_eq, List.cons_append, List.nil_append, pick, nth]
      go_wp2_with (first
        | (apply SeqP.skip; rfl; simp only [Act.put, List.setIfInBounds_toArray, List.set_cons_zero, List.set_cons_succ])
        | (apply SeqP.call; rfl; rfl; (intro w2 hw; have hw := hTP _ hw; ((obtain ⟨⟨q0, q1, q2, q3, q4, q5⟩, ⟨r0, r1, r2, r3, r4⟩⟩ := FC _ hw)); go_simp; exact ⟨rfl, rfl⟩); (intro w2 hw; have hw := hTP _ hw; ((obtain ⟨⟨q0, q1, q2, q3, q4, q5⟩, ⟨r0, r1, r2, r3, r4⟩⟩ := FC _ hw)); (first | (go_at_call 80; refine (none_any g b.n _ (FC _ hw).2.2.2.2.1).mono ?_; rintro e w' ⟨rfl, rfl⟩; exact ⟨rfl, rfl⟩))); simp only [Act.put, List.setIfInBounds_toArray, List.set_cons_zero, List.set_cons_succ])
        | (apply SeqP.pure; rfl; (intro w2 hw; have hw := hTP _ hw; ((obtain ⟨⟨q0, q1, q2, q3, q4, q5⟩, ⟨r0, r1, r2, r3, r4⟩⟩ := FC _ hw)); go_simp; with_reducible rfl); simp only [Act.put, List.setIfInBounds_toArray, List.set_cons_zero, List.set_cons_succ])
        | (apply SeqP.split; rfl; rfl; all_goals (intro hc; simp only [hc]; try simp only [beq_iff_eq, decide_eq_true_eq, beq_eq_false_iff_ne, decide_eq_false_iff_not, bne_iff_ne, ne_eq, Bool.not_eq_true', Bool.not_eq_false', Int.not_le, Int.not_lt, bne_eq_false_iff_eq, Bool.or_eq_true, Bool.and_eq_true, Bool.or_eq_false_iff] at hc)))
      apply SeqP.nil
      refine hKP _ _ (hTP' _ (⟨HH.out.1.1.drew, HH.out.1.2.1.drew, HH.out.1.2.2.drew⟩)) ?_
      clear hKP hTP hTP'
      go_wp2_with fail
      go_ret
      exact add_no HNO.out ⟨sl, HH.out.1.2.2.drew, fun i hi => (HH.out.2.1 i hi).keep HH.out.1.1.drew⟩ (Kept.ofBelow HH.out.1.1.drew _ _)
    have e2 : (x.m.stream != b.stream) = false := by simpa using e2p
    have He2 := Lib.hid e2p
    clear e2p
    by_cases e3p : x.m.epoch = b.epoch
    case neg =>
      have e3 : (x.m.epoch != b.epoch) = true := by simpa using e3p
      clear e3p
      go_enter Try.func52, Try.ntmps52
      go_wp2_with fail
      refine wp_region_p ([(0, true), (1, true), (2, true), (3, true), (4, true), (5, true), (6, true), (7, true), (8, true), (9, true), (10, true), (11, true), (12, true), (13, true), (14, true), (15, true), (16, true), (17, true), (18, true), (19, true), (20, true), (21, true), (22, true), (23, true), (24, true), (25, true), (26, true), (27, true), (28, true), (29, true), (30, true), (31, true), (32, true), (33, true), (34, true), (35, true), (36, true), (37, true), (38, true), (39, true), (40, true), (41, true), (42, true), (43, true), (44, true), (45, true), (46, true), (47, true), (48, true), (49, true), (50, true), (51, true), (52, true), (53, true), (54, true), (55, true), (56, true), (57, true), (58, true), (59, true), (60, true), (61, true), (62, true), (63, true), (64, true), (65, true)]) (fun w' => AddW w w' g b S sl x) (by kernel_rfl) rfl (by kernel_rfl) (by kernel_rfl) (⟨HH.out.1.1.drew, HH.out.1.2.1.drew, HH.out.1.2.2.drew⟩) rfl ?_
      intro KP RP TP hKP hTP hTP'
      simp only [List.append_eq, List.cons_append, List.nil_append, pick, nth]
      go_wp2_with (first
        | (apply SeqP.skip; rfl; simp only [Act.put, List.setIfInBounds_toArray, List.set_cons_zero, List.set_cons_succ])
        | (apply SeqP.call; rfl; rfl; (intro w2 hw; have hw := hTP _ hw; ((obtain ⟨⟨q0, q1, q2, q3, q4, q5⟩, ⟨r0, r1, r2, r3, r4⟩⟩ := FC _ hw)); go_simp; exact ⟨rfl, rfl⟩); (intro w2 hw; have hw := hTP _ hw; ((obtain ⟨⟨q0, q1, q2, q3, q4, q5⟩, ⟨r0, r1, r2, r3, r4⟩⟩ := FC _ hw)); (first | (go_at_call 80; refine (none_any g b.n _ (FC _ hw).2.2.2.2.1).mono ?_; rintro e w' ⟨rfl, rfl⟩; exact ⟨rfl, rfl⟩))); simp only [Act.put, List.setIfInBounds_toArray, List.set_cons_zero, List.set_cons_succ])
        | (apply SeqP.pure; rfl; (intro w2 hw; have hw := hTP _ hw; ((obtain ⟨⟨q0, q1, q2, q3, q4, q5⟩, ⟨r0, r1, r2, r3, r4⟩⟩ := FC _ hw)); go_simp; with_reducible rfl); simp only [Act.put, List.setIfInBounds_toArray, List.set_cons_zero, List.set_cons_succ])
        | (apply SeqP.split; rfl; rfl; all_goals (intro hc; simp only [hc]; try simp only [beq_iff_eq, decide_eq_true_eq, beq_eq_false_iff_ne, decide_eq_false_iff_not, bne_iff_ne, ne_eq, Bool.not_eq_true', Bool.not_eq_false', Int.not_le, Int.not_lt, bne_eq_false_iff_eq, Bool.or_eq_true, Bool.and_eq_true, Bool.or_eq_false_iff] at hc)))
      apply SeqP.nil
      refine hKP _ _ (hTP' _ (⟨HH.out.1.1.drew, HH.out.1.2.1.drew, HH.out.1.2.2.drew⟩)) ?_
      clear hKP hTP hTP'
      go_wp2_with fail
      go_ret
      exact add_no HNO.out ⟨sl, HH.out.1.2.2.drew, fun i hi => (HH.out.2.1 i hi).keep HH.out.1.1.drew⟩ (Kept.ofBelow HH.out.1.1.drew _ _)
    have e3 : (x.m.epoch != b.epoch) = false := by simpa using e3p
    have He3 := Lib.hid e3p
    clear e3p
    by_cases e4p : x.m.to = b.site
    case neg =>
      have e4 : (x.m.to != b.site) = true := by simpa using e4p
      clear e4p
      go_enter Try.func52, Try.ntmps52
      go_wp2_with fail
      refine wp_region_p ([(0, true), (1, true), (2, true), (3, true), (4, true), (5, true), (6, true), (7, true), (8, true), (9, true), (10, true), (11, true), (12, true), (13, true), (14, true), (15, true), (16, true), (17, true), (18, true), (19, true), (20, true), (21, true), (22, true), (23, true), (24, true), (25, true), (26, true), (27, true), (28, true), (29, true), (30, true), (31, true), (32, true), (33, true), (34, true), (35, true), (36, true), (37, true), (38, true), (39, true), (40, true), (41, true), (42, true), (43, true), (44, true), (45, true), (46, true), (47, true), (48, true), (49, true), (50, true), (51, true), (52, true), (53, true), (54, true), (55, true), (56, true), (57, true), (58, true), (59, true), (60, true), (61, true), (62, true), (63, true), (64, true), (65, true)]) (fun w' => AddW w w' g b S sl x) (by kernel_rfl) rfl (by kernel_rfl) (by kernel_rfl) (⟨HH.out.1.1.drew, HH.out.1.2.1.drew, HH.out.1.2.2.drew⟩) rfl ?_
      intro KP RP TP hKP hTP hTP'
      simp only [List.append_eq, List.cons_append, List.nil_append, pick, nth]
      go_wp2_with (first
        | (apply SeqP.skip; rfl; simp only [Act.put, List.setIfInBounds_toArray, List.set_cons_zero, List.set_cons_succ])
        | (apply SeqP.call; rfl; rfl; (intro w2 hw; have hw := hTP _ hw; ((obtain ⟨⟨q0, q1, q2, q3, q4, q5⟩, ⟨r0, r1, r2, r3, r4⟩⟩ := FC _ hw)); go_simp; exact ⟨rfl, rfl⟩); (intro w2 hw; have hw := hTP _ hw; ((obtain ⟨⟨q0, q1, q2, q3, q4, q5⟩, ⟨r0, r1, r2, r3, r4⟩⟩ := FC _ hw)); (first | (go_at_call 80; refine (none_any g b.n _ (FC _ hw).2.2.2.2.1).mono ?_; rintro e w' ⟨rfl, rfl⟩; exact ⟨rfl, rfl⟩))); simp only [Act.put, List.setIfInBounds_toArray, List.set_cons_zero, List.set_cons_succ])
        | (apply SeqP.pure; rfl; (intro w2 hw; have hw := hTP _ hw; ((obtain ⟨⟨q0, q1, q2, q3, q4, q5⟩, ⟨r0, r1, r2, r3, r4⟩⟩ := FC _ hw)); go_simp; with_reducible rfl); simp only [Act.put, List.setIfInBounds_toArray, List.set_cons_zero, List.set_cons_succ])
        | (apply SeqP.split; rfl; rfl; all_goals (intro hc; simp only [hc]; try simp only [beq_iff_eq, decide_eq_true_eq, beq_eq_false_iff_ne, decide_eq_false_iff_not, bne_iff_ne, ne_eq, Bool.not_eq_true', Bool.not_eq_false', Int.not_le, Int.not_lt, bne_eq_false_iff_eq, Bool.or_eq_true, Bool.and_eq_true, Bool.or_eq_false_iff] at hc)))
      apply SeqP.nil
      refine hKP _ _ (hTP' _ (⟨HH.out.1.1.drew, HH.out.1.2.1.drew, HH.out.1.2.2.drew⟩)) ?_
      clear hKP hTP hTP'
      go_wp2_with fail
      go_ret
      exact add_no HNO.out ⟨sl, HH.out.1.2.2.drew, fun i hi => (HH.out.2.1 i hi).keep HH.out.1.1.drew⟩ (Kept.ofBelow HH.out.1.1.drew _ _)
    have e4 : (x.m.to != b.site) = false := by simpa using e4p
    have He4 := Lib.hid e4p
    clear e4p
    by_cases e5 : x.m.from_ < 0
    case pos =>
      have e5' : decide (x.m.from_ < 0) = true := by simpa using e5
      go_enter Try.func52, Try.ntmps52
      go_wp2_with fail
      refine wp_region_p ([(0, true), (1, true), (2, true), (3, true), (4, true), (5, true), (6, true), (7, true), (8, true), (9, true), (10, true), (11, true), (12, true), (13, true), (14, true), (15, true), (16, true), (17, true), (18, true), (19, true), (20, true), (21, true), (22, true), (23, true), (24, true), (25, true), (26, true), (27, true), (28, true), (29, true), (30, true), (31, true), (32, true), (33, true), (34, true), (35, true), (36, true), (37, true), (38, true), (39, true), (40, true), (41, true), (42, true), (43, true), (44, true), (45, true), (46, true), (47, true), (48, true), (49, true), (50, true), (51, true), (52, true), (53, true), (54, true), (55, true), (56, true), (57, true), (58, true), (59, true), (60, true), (61, true), (62, true), (63, true), (64, true), (65, true)]) (fun w' => AddW w w' g b S sl x) (by kernel_rfl) rfl (by kernel_rfl) (by kernel_rfl) (⟨HH.out.1.1.drew, HH.out.1.2.1.drew, HH.out.1.2.2.drew⟩) rfl ?_
      intro KP RP TP hKP hTP hTP'
      simp only [List.append_eq, List.cons_append, List.nil_append, pick, nth]
      go_wp2_with (first
        | (apply SeqP.skip; rfl; simp only [Act.put, List.setIfInBounds_toArray, List.set_cons_zero, List.set_cons_succ])
        | (apply SeqP.call; rfl; rfl; (intro w2 hw; have hw := hTP _ hw; ((obtain ⟨⟨q0, q1, q2, q3, q4, q5⟩, ⟨r0, r1, r2, r3, r4⟩⟩ := FC _ hw)); go_simp; exact ⟨rfl, rfl⟩); (intro w2 hw; have hw := hTP _ hw; ((obtain ⟨⟨q0, q1, q2, q3, q4, q5⟩, ⟨r0, r1, r2, r3, r4⟩⟩ := FC _ hw)); (first | (go_at_call 80; refine (none_any g b.n _ (FC _ hw).2.2.2.2.1).mono ?_; rintro e w' ⟨rfl, rfl⟩; exact ⟨rfl, rfl⟩))); simp only [Act.put, List.setIfInBounds_toArray, List.set_cons_zero, List.set_cons_succ])
        | (apply SeqP.pure; rfl; (intro w2 hw; have hw := hTP _ hw; ((obtain ⟨⟨q0, q1, q2, q3, q4, q5⟩, ⟨r0, r1, r2, r3, r4⟩⟩ := FC _ hw)); go_simp; with_reducible rfl); simp only [Act.put, List.setIfInBounds_toArray, List.set_cons_zero, List.set_cons_succ])
        | (apply SeqP.split; rfl; rfl; all_goals (intro hc; simp only [hc]; try simp only [beq_iff_eq, decide_eq_true_eq, beq_eq_false_iff_ne, decide_eq_false_iff_not, bne_iff_ne, ne_eq, Bool.not_eq_true', Bool.not_eq_false', Int.not_le, Int.not_lt, bne_eq_false_iff_eq, Bool.or_eq_true, Bool.and_eq_true, Bool.or_eq_false_iff] at hc)))
      apply SeqP.nil
      refine hKP _ _ (hTP' _ (⟨HH.out.1.1.drew, HH.out.1.2.1.drew, HH.out.1.2.2.drew⟩)) ?_
      clear hKP hTP hTP'
      go_wp2_with fail
      go_ret
      exact add_no HNO.out ⟨sl, HH.out.1.2.2.drew, fun i hi => (HH.out.2.1 i hi).keep HH.out.1.1.drew⟩ (Kept.ofBelow HH.out.1.1.drew _ _)
    have e5' : decide (x.m.from_ < 0) = false := by simpa using e5
    by_cases e6 : b.n ≤ x.m.from_
    case pos =>
      have e6' : decide (b.n ≤ x.m.from_) = true := by simpa using e6
      go_enter Try.func52, Try.ntmps52
      go_wp2_with fail
      refine wp_region_p ([(0, true), (1, true), (2, true), (3, true), (4, true), (5, true), (6, true), (7, true), (8, true), (9, true), (10, true), (11, true), (12, true), (13, true), (14, true), (15, true), (16, true), (17, true), (18, true), (19, true), (20, true), (21, true), (22, true), (23, true), (24, true), (25, true), (26, true), (27, true), (28, true), (29, true), (30, true), (31, true), (32, true), (33, true), (34, true), (35, true), (36, true), (37, true), (38, true), (39, true), (40, true), (41, true), (42, true), (43, true), (44, true), (45, true), (46, true), (47, true), (48, true), (49, true), (50, true), (51, true), (52, true), (53, true), (54, true), (55, true), (56, true), (57, true), (58, true), (59, true), (60, true), (61, true), (62, true), (63, true), (64, true), (65, true)]) (fun w' => AddW w w' g b S sl x) (by kernel_rfl) rfl (by kernel_rfl) (by kernel_rfl) (⟨HH.out.1.1.drew, HH.out.1.2.1.drew, HH.out.1.2.2.drew⟩) rfl ?_
      intro KP RP TP hKP hTP hTP'
      simp only [List.append_eq, List.cons_append, List.nil_append, pick, nth]
      go_wp2_with (first
        | (apply SeqP.skip; rfl; simp only [Act.put, List.setIfInBounds_toArray, List.set_cons_zero, List.set_cons_succ])
        | (apply SeqP.call; rfl; rfl; (intro w2 hw; have hw := hTP _ hw; ((obtain ⟨⟨q0, q1, q2, q3, q4, q5⟩, ⟨r0, r1, r2, r3, r4⟩⟩ := FC _ hw)); go_simp; exact ⟨rfl, rfl⟩); (intro w2 hw; have hw := hTP _ hw; ((obtain ⟨⟨q0, q1, q2, q3, q4, q5⟩, ⟨r0, r1, r2, r3, r4⟩⟩ := FC _ hw)); (first | (go_at_call 80; refine (none_any g b.n _ (FC _ hw).2.2.2.2.1).mono ?_; rintro e w' ⟨rfl, rfl⟩; exact ⟨rfl, rfl⟩))); simp only [Act.put, List.setIfInBounds_toArray, List.set_cons_zero, List.set_cons_succ])
        | (apply SeqP.pure; rfl; (intro w2 hw; have hw := hTP _ hw; ((obtain ⟨⟨q0, q1, q2, q3, q4, q5⟩, ⟨r0, r1, r2, r3, r4⟩⟩ := FC _ hw)); go_simp; with_reducible rfl); simp only [Act.put, List.setIfInBounds_toArray, List.set_cons_zero, List.set_cons_succ])
        | (apply SeqP.split; rfl; rfl; all_goals (intro hc; simp only [hc]; try simp only [beq_iff_eq, decide_eq_true_eq, beq_eq_false_iff_ne, decide_eq_false_iff_not, bne_iff_ne, ne_eq, Bool.not_eq_true', Bool.not_eq_false', Int.not_le, Int.not_lt, bne_eq_false_iff_eq, Bool.or_eq_true, Bool.and_eq_true, Bool.or_eq_false_iff] at hc)))
      apply SeqP.nil
      refine hKP _ _ (hTP' _ (⟨HH.out.1.1.drew, HH.out.1.2.1.drew, HH.out.1.2.2.drew⟩)) ?_
      clear hKP hTP hTP'
      go_wp2_with fail
      go_ret
      exact add_no HNO.out ⟨sl, HH.out.1.2.2.drew, fun i hi => (HH.out.2.1 i hi).keep HH.out.1.1.drew⟩ (Kept.ofBelow HH.out.1.1.drew _ _)
    obtain ⟨K, hK⟩ := Int.eq_ofNat_of_zero_le (show 0 ≤ x.m.from_ by omega)
    have hfr : x.m.from_.toNat = K := by omega
    rw [hK] at e5 e6 e5' FC
    have e6' : decide (b.n ≤ (K : Int)) = false := by simpa using e6
    have hK7 : K < 7 := by omega
    have e7 : (0 : Int) ≤ (K : Int) := by omega
    have e9 : (K : Int) < 7 := by omega
    have HK := Lib.hid (And.intro hK hfr)
    clear hK hfr
    cases hS : (S K).isSome with
    | true =>
      have FD : ∀ w', AddW w w' g b S sl x → (w'.cell? ⟨w.heap.size, 0, none⟩ = some (.int .i64 x.m.kind) ∧ w'.cell? ⟨w.heap.size, 1, none⟩ = some (.int .i64 (K : Int)) ∧ w'.cell? ⟨w.heap.size, 2, none⟩ = some (.int .i64 x.m.to) ∧ w'.cell? ⟨w.heap.size, 3, none⟩ = some (.int .i64 x.m.stream) ∧
          w'.cell? ⟨w.heap.size, 4, none⟩ = some (.int .i64 x.m.epoch) ∧ w'.cell? ⟨w.heap.size, 8, none⟩ = some (.int .i64 x.m.stamp)) ∧
          (w'.cell? ⟨g, 0, none⟩ = some (.int .i64 b.stream) ∧ w'.cell? ⟨g, 1, none⟩ = some (.int .i64 b.epoch) ∧ w'.cell? ⟨g, 2, none⟩ = some (.int .i64 b.site) ∧ w'.cell? ⟨g, 3, none⟩ = some (.int .i64 b.n) ∧ w'.cell? ⟨g, 4, none⟩ = some (.int .i64 b.stamp)) ∧ w'.cell? ⟨g, 5 + K, none⟩ = some (.bool true) := fun w' h => ⟨(FC w' h).1, (FC w' h).2, by have h7 := h.cells.2.2 K hK7; rw [hS] at h7; exact h7⟩
      clear FC hS
      go_enter Try.func52, Try.ntmps52
      go_wp2_with fail
      refine wp_region_p ([(0, true), (1, true), (2, true), (3, true), (4, true), (5, true), (6, true), (7, true), (8, true), (9, true), (10, true), (11, true), (12, true), (13, true), (14, true), (15, true), (16, true), (17, true), (18, true), (19, true), (20, true), (21, true), (22, true), (23, true), (24, true), (25, true), (26, true), (27, true), (28, true), (29, true), (30, true), (31, true), (32, true), (33, true), (34, true), (35, true), (36, true), (37, true), (38, true), (39, true), (40, true), (41, true), (42, true), (43, true), (44, true), (45, true), (46, true), (47, true), (48, true), (49, true), (50, true), (51, true), (52, true), (53, true), (54, true), (55, true), (56, true), (57, true), (58, true), (59, true), (60, true), (61, true), (62, true), (63, true), (64, true), (65, true)]) (fun w' => AddW w w' g b S sl x) (by kernel_rfl) rfl (by kernel_rfl) (by kernel_rfl) (⟨HH.out.1.1.drew, HH.out.1.2.1.drew, HH.out.1.2.2.drew⟩) rfl ?_
      intro KP RP TP hKP hTP hTP'
      simp only [List.append_eq, List.cons_append, List.nil_append, pick, nth]
      go_wp2_with (first
        | (apply SeqP.skip; rfl; simp only [Act.put, List.setIfInBounds_toArray, List.set_cons_zero, List.set_cons_succ])
        | (apply SeqP.call; rfl; rfl; (intro w2 hw; have hw := hTP _ hw; ((obtain ⟨⟨q0, q1, q2, q3, q4, q5⟩, ⟨r0, r1, r2, r3, r4⟩, t0⟩ := FD _ hw)); go_simp; exact ⟨rfl, rfl⟩); (intro w2 hw; have hw := hTP _ hw; ((obtain ⟨⟨q0, q1, q2, q3, q4, q5⟩, ⟨r0, r1, r2, r3, r4⟩, t0⟩ := FD _ hw)); (first | (go_at_call 80; refine (none_any g b.n _ (FD _ hw).2.1.2.2.2.1).mono ?_; rintro e w' ⟨rfl, rfl⟩; exact ⟨rfl, rfl⟩))); simp only [Act.put, List.setIfInBounds_toArray, List.set_cons_zero, List.set_cons_succ])
        | (apply SeqP.pure; rfl; (intro w2 hw; have hw := hTP _ hw; ((obtain ⟨⟨q0, q1, q2, q3, q4, q5⟩, ⟨r0, r1, r2, r3, r4⟩, t0⟩ := FD _ hw)); go_simp; with_reducible rfl); simp only [Act.put, List.setIfInBounds_toArray, List.set_cons_zero, List.set_cons_succ])
        | (apply SeqP.split; rfl; rfl; all_goals (intro hc; simp only [hc]; try simp only [beq_iff_eq, decide_eq_true_eq, beq_eq_false_iff_ne, decide_eq_false_iff_not, bne_iff_ne, ne_eq, Bool.not_eq_true', Bool.not_eq_false', Int.not_le, Int.not_lt, bne_eq_false_iff_eq, Bool.or_eq_true, Bool.and_eq_true, Bool.or_eq_false_iff] at hc)))
      apply SeqP.nil
      refine hKP _ _ (hTP' _ (⟨HH.out.1.1.drew, HH.out.1.2.1.drew, HH.out.1.2.2.drew⟩)) ?_
      clear hKP hTP hTP'
      go_wp2_with fail
      go_ret
      exact add_no HNO.out ⟨sl, HH.out.1.2.2.drew, fun i hi => (HH.out.2.1 i hi).keep HH.out.1.1.drew⟩ (Kept.ofBelow HH.out.1.1.drew _ _)
    | false =>
      have FD : ∀ w', AddW w w' g b S sl x → (w'.cell? ⟨w.heap.size, 0, none⟩ = some (.int .i64 x.m.kind) ∧ w'.cell? ⟨w.heap.size, 1, none⟩ = some (.int .i64 (K : Int)) ∧ w'.cell? ⟨w.heap.size, 2, none⟩ = some (.int .i64 x.m.to) ∧ w'.cell? ⟨w.heap.size, 3, none⟩ = some (.int .i64 x.m.stream) ∧
          w'.cell? ⟨w.heap.size, 4, none⟩ = some (.int .i64 x.m.epoch) ∧ w'.cell? ⟨w.heap.size, 8, none⟩ = some (.int .i64 x.m.stamp)) ∧
          (w'.cell? ⟨g, 0, none⟩ = some (.int .i64 b.stream) ∧ w'.cell? ⟨g, 1, none⟩ = some (.int .i64 b.epoch) ∧ w'.cell? ⟨g, 2, none⟩ = some (.int .i64 b.site) ∧ w'.cell? ⟨g, 3, none⟩ = some (.int .i64 b.n) ∧ w'.cell? ⟨g, 4, none⟩ = some (.int .i64 b.stamp)) ∧ w'.cell? ⟨g, 5 + K, none⟩ = some (.bool false) := fun w' h => ⟨(FC w' h).1, (FC w' h).2, by have h7 := h.cells.2.2 K hK7; rw [hS] at h7; exact h7⟩
      have e8 : (x.m.stamp != b.stamp) = true := by
        by_cases h : x.m.stamp = b.stamp
        · exact absurd ⟨He1.out, He2.out, He3.out, He4.out, by have := HK.out.1; omega, by have := HK.out.1; omega, by rw [HK.out.2]; simpa using hS, h⟩ HP.out
        · simpa using h
      clear FC hS
      go_enter Try.func52, Try.ntmps52
      go_wp2_with fail
      refine wp_region_p ([(0, true), (1, true), (2, true), (3, true), (4, true), (5, true), (6, true), (7, true), (8, true), (9, true), (10, true), (11, true), (12, true), (13, true), (14, true), (15, true), (16, true), (17, true), (18, true), (19, true), (20, true), (21, true), (22, true), (23, true), (24, true), (25, true), (26, true), (27, true), (28, true), (29, true), (30, true), (31, true), (32, true), (33, true), (34, true), (35, true), (36, true), (37, true), (38, true), (39, true), (40, true), (41, true), (42, true), (43, true), (44, true), (45, true), (46, true), (47, true), (48, true), (49, true), (50, true), (51, true), (52, true), (53, true), (54, true), (55, true), (56, true), (57, true), (58, true), (59, true), (60, true), (61, true), (62, true), (63, true), (64, true), (65, true)]) (fun w' => AddW w w' g b S sl x) (by kernel_rfl) rfl (by kernel_rfl) (by kernel_rfl) (⟨HH.out.1.1.drew, HH.out.1.2.1.drew, HH.out.1.2.2.drew⟩) rfl ?_
      intro KP RP TP hKP hTP hTP'
      simp only [List.append_eq, List.cons_append, List.nil_append, pick, nth]
      go_wp2_with (first
        | (apply SeqP.skip; rfl; simp only [Act.put, List.setIfInBounds_toArray, List.set_cons_zero, List.set_cons_succ])
        | (apply SeqP.call; rfl; rfl; (intro w2 hw; have hw := hTP _ hw; ((obtain ⟨⟨q0, q1, q2, q3, q4, q5⟩, ⟨r0, r1, r2, r3, r4⟩, t0⟩ := FD _ hw)); go_simp; exact ⟨rfl, rfl⟩); (intro w2 hw; have hw := hTP _ hw; ((obtain ⟨⟨q0, q1, q2, q3, q4, q5⟩, ⟨r0, r1, r2, r3, r4⟩, t0⟩ := FD _ hw)); (first | (go_at_call 80; refine (none_any g b.n _ (FD _ hw).2.1.2.2.2.1).mono ?_; rintro e w' ⟨rfl, rfl⟩; exact ⟨rfl, rfl⟩))); simp only [Act.put, List.setIfInBounds_toArray, List.set_cons_zero, List.set_cons_succ])
        | (apply SeqP.pure; rfl; (intro w2 hw; have hw := hTP _ hw; ((obtain ⟨⟨q0, q1, q2, q3, q4, q5⟩, ⟨r0, r1, r2, r3, r4⟩, t0⟩ := FD _ hw)); go_simp; with_reducible rfl); simp only [Act.put, List.setIfInBounds_toArray, List.set_cons_zero, List.set_cons_succ])
        | (apply SeqP.split; rfl; rfl; all_goals (intro hc; simp only [hc]; try simp only [beq_iff_eq, decide_eq_true_eq, beq_eq_false_iff_ne, decide_eq_false_iff_not, bne_iff_ne, ne_eq, Bool.not_eq_true', Bool.not_eq_false', Int.not_le, Int.not_lt, bne_eq_false_iff_eq, Bool.or_eq_true, Bool.and_eq_true, Bool.or_eq_false_iff] at hc)))
      apply SeqP.nil
      refine hKP _ _ (hTP' _ (⟨HH.out.1.1.drew, HH.out.1.2.1.drew, HH.out.1.2.2.drew⟩)) ?_
      clear hKP hTP hTP'
      go_wp2_with fail
      go_ret
      exact add_no HNO.out ⟨sl, HH.out.1.2.2.drew, fun i hi => (HH.out.2.1 i hi).keep HH.out.1.1.drew⟩ (Kept.ofBelow HH.out.1.1.drew _ _)
end Go.Proofs.Ytdphfhenjndkkaa

set_option linter.unusedSimpArgs false
set_option linter.unusedVariables false
set_option maxRecDepth 100000
namespace Go.Proofs.Ytdphfhenjndkkaa
open Go Go.Shelf Go.Proofs

def lays189_ren : Go.Shelf.Ren := ⟨fun | 189 => 84 | 125 => 94 | 257 => 93 | 128 => 110 | 129 => 111 | 294 => 101 | 295 => 102 | 296 => 103 | 297 => 104 | 298 => 105 | 299 => 106 | 216 => 107 | 300 => 108 | 301 => 109 | 328 => 113 | 329 => 114 | 330 => 115 | 331 => 116 | 332 => 117 | 215 => 118 | 343 => 119 | n => n, fun | 28 => 113 | 3 => 3 | 46 => 145 | 0 => 0 | 51 => 167 | 53 => 169 | 4 => 4 | 183 => 160 | 182 => 159 | 131 => 79 | 5 => 5 | 9 => 9 | 218 => 170 | 222 => 150 | 228 => 175 | 229 => 176 | n => n, fun | n => n⟩
theorem lays189 : Go.Proofs.Lays.n189 Try.prog lays189_ren := {
  mixed := by kernel_rfl
  f125 := Try.func94.trans (congrArg some (by kernel_rfl))
  f128 := Try.func110.trans (congrArg some (by kernel_rfl))
  f129 := Try.func111.trans (congrArg some (by kernel_rfl))
  f189 := Try.func84.trans (congrArg some (by kernel_rfl))
  f215 := Try.func118.trans (congrArg some (by kernel_rfl))
  f216 := Try.func107.trans (congrArg some (by kernel_rfl))
  f257 := Try.func93.trans (congrArg some (by kernel_rfl))
  f294 := Try.func101.trans (congrArg some (by kernel_rfl))
  f295 := Try.func102.trans (congrArg some (by kernel_rfl))
  f296 := Try.func103.trans (congrArg some (by kernel_rfl))
  f297 := Try.func104.trans (congrArg some (by kernel_rfl))
  f298 := Try.func105.trans (congrArg some (by kernel_rfl))
  f299 := Try.func106.trans (congrArg some (by kernel_rfl))
  f300 := Try.func108.trans (congrArg some (by kernel_rfl))
  f301 := Try.func109.trans (congrArg some (by kernel_rfl))
  f328 := Try.func113.trans (congrArg some (by kernel_rfl))
  f329 := Try.func114.trans (congrArg some (by kernel_rfl))
  f330 := Try.func115.trans (congrArg some (by kernel_rfl))
  f331 := Try.func116.trans (congrArg some (by kernel_rfl))
  f332 := Try.func117.trans (congrArg some (by kernel_rfl))
  f343 := Try.func119.trans (congrArg some (by kernel_rfl))
  t0 := Try.underlying0
  a0 := Try.isAgg0
  z0 := Try.sizeOf0
  v0 := Try.zeroValue0
  t3 := Try.underlying3
  a3 := Try.isAgg3
  z3 := Try.sizeOf3
  v3 := Try.zeroValue3
  t4 := Try.underlying4
  a4 := Try.isAgg4
  z4 := Try.sizeOf4
  v4 := Try.zeroValue4
  t5 := Try.underlying5
  a5 := Try.isAgg5
  z5 := Try.sizeOf5
  v5 := Try.zeroValue5
  t9 := Try.underlying9
  a9 := Try.isAgg9
  z9 := Try.sizeOf9
  v9 := Try.zeroValue9
  t28 := Try.underlying113
  a28 := Try.isAgg113
  z28 := Try.sizeOf113
  v28 := Try.zeroValue113
  t46 := Try.underlying145
  a46 := Try.isAgg145
  z46 := Try.sizeOf145
  v46 := Try.zeroValue145
  t51 := Try.underlying167
  a51 := Try.isAgg167
  z51 := Try.sizeOf167
  v51 := Try.zeroValue167
  t53 := Try.underlying169
  a53 := Try.isAgg169
  z53 := Try.sizeOf169
  v53 := Try.zeroValue169
  t131 := Try.underlying79
  a131 := Try.isAgg79
  z131 := Try.sizeOf79
  v131 := Try.zeroValue79
  t182 := Try.underlying159
  a182 := Try.isAgg159
  z182 := Try.sizeOf159
  v182 := Try.zeroValue159
  t183 := Try.underlying160
  a183 := Try.isAgg160
  z183 := Try.sizeOf160
  v183 := Try.zeroValue160
  t218 := Try.underlying170
  a218 := Try.isAgg170
  z218 := Try.sizeOf170
  v218 := Try.zeroValue170
  t222 := Try.underlying150
  a222 := Try.isAgg150
  z222 := Try.sizeOf150
  v222 := Try.zeroValue150
  t228 := Try.underlying175
  a228 := Try.isAgg175
  z228 := Try.sizeOf175
  v228 := Try.zeroValue175
  t229 := Try.underlying176
  a229 := Try.isAgg176
  z229 := Try.sizeOf176
  v229 := Try.zeroValue176 }
open Go.Sort Go.RowKit in
theorem sh_slices_Sort_int (blk off cap : Nat) (zs : List Int) (w : World) (hH : Holds (Value.int .i64) w blk off zs.toArray) (hblk : blk < w.heap.size) (hsz : zs.length < 4611686018427387904) :
    Calls Try.prog 84 #[.slice (some ⟨blk, off, none⟩) zs.length cap] w fun e w' =>
      e = .returned (.tuple #[]) ∧ ∃ n os, w' = grow (putRow (Value.int .i64) (Sort.ahead w n) blk off (zs.mergeSort fun x y => decide (x ≤ y)).toArray) os := Any.slices_Sort_int lays189 blk off cap zs w hH hblk hsz
def laysNm215_ren : Go.Shelf.Ren := ⟨fun | 15 => 83 | n => n, fun | 22 => 113 | 3 => 3 | 4 => 4 | n => n, fun | n => n⟩
theorem laysNm215 : Go.Proofs.Lays2.n15 Try.prog laysNm215_ren := {
  mixed := by kernel_rfl
  f15 := Try.func83.trans (congrArg some (by kernel_rfl))
  t3 := Try.underlying3
  a3 := Try.isAgg3
  z3 := Try.sizeOf3
  v3 := Try.zeroValue3
  t4 := Try.underlying4
  a4 := Try.isAgg4
  z4 := Try.sizeOf4
  v4 := Try.zeroValue4
  t22 := Try.underlying113
  a22 := Try.isAgg113
  z22 := Try.sizeOf113
  v22 := Try.zeroValue113
  i3 := by kernel_rfl }
open Go.RowKit Go.Lib in
theorem sh_slices_Clone_int (b off n c : Nat) (zs : List Int) (w : World) (hz : n ≤ zs.length) (hbig : n * 8 ≤ 140737488355328) (hc : ∀ j, j < zs.length → w.cell? ⟨b, off + j, none⟩ = some (.int .i64 (zs.getD j 0))) :
    Calls Try.prog 83 #[.slice (some ⟨b, off, none⟩) n c] w fun e w' => ∃ v', e = .returned v' ∧ w'.ownsRow w.heap.size 3 1 v' n ((zs.take n).map (Value.int .i64)) ∧ v' ≠ .slice none 0 0 ∧ Below w.heap.size w w' := Any.slices_Clone_int laysNm215 b off n c zs w hz hbig hc
open Go.RowKit Go.Lib in
theorem sh_slices_Clone_int_nil (n c : Nat) (w : World) :
    Calls Try.prog 83 #[.slice none n c] w fun e w' => e = .returned (.slice none 0 0) ∧ w' = w := Any.slices_Clone_int_nil laysNm215 n c w
open Go.RowKit Go.Lib in
theorem sh_slices_Clone_int_zero (a : Addr) (c : Nat) (w : World) :
    Calls Try.prog 83 #[.slice (some a) 0 c] w fun e w' => ∃ v', e = .returned v' ∧ w'.ownsRow w.heap.size 3 1 v' 0 [] ∧ v' ≠ .slice none 0 0 ∧ Below w.heap.size w w' := Any.slices_Clone_int_zero laysNm215 a c w
def laysDel_ren : Go.Shelf.Ren := ⟨fun | 10 => 85 | 6 => 95 | n => n, fun | 22 => 113 | 23 => 3 | 25 => 81 | 3 => 3 | 4 => 4 | 0 => 0 | n => n, fun | n => n⟩
theorem laysDel : Go.Proofs.SlLaysH.n10 Try.prog laysDel_ren := {
  mixed := by kernel_rfl
  f6 := ⟨Try.f95.name, by decide, Try.func95.trans (congrArg some (by kernel_rfl))⟩
  f10 := ⟨Try.f85.name, by decide, Try.func85.trans (congrArg some (by kernel_rfl))⟩
  t0 := Try.underlying0
  a0 := Try.isAgg0
  z0 := Try.sizeOf0
  v0 := Try.zeroValue0
  t3 := Try.underlying3
  a3 := Try.isAgg3
  z3 := Try.sizeOf3
  v3 := Try.zeroValue3
  t4 := Try.underlying4
  a4 := Try.isAgg4
  z4 := Try.sizeOf4
  v4 := Try.zeroValue4
  t22 := Try.underlying113
  a22 := Try.isAgg113
  z22 := Try.sizeOf113
  v22 := Try.zeroValue113
  a23 := Try.isAgg3
  z23 := Try.sizeOf3
  t25 := Try.underlying81
  a25 := Try.isAgg81
  z25 := Try.sizeOf81
  v25 := Try.zeroValue81 }
end Go.Proofs.Ytdphfhenjndkkaa

set_option linter.unusedSimpArgs false
set_option linter.unusedVariables false
set_option maxRecDepth 100000
namespace Go.Proofs.Ytdphfhenjndkkaa
open Go Go.RowKit Go.Sq Go.Wd Go.Sort

def sortE (l : List Int) : List Int := l.mergeSort fun x y => decide (x ≤ y)
def mostOk (l : List Int) (n : Int) : Prop := sitesE n = true ∧ (l.length : Int) ≤ n ∧ majE n ≤ l.length
instance (l : List Int) (n : Int) : Decidable (mostOk l n) := by unfold mostOk; infer_instance
def mostE (l : List Int) (n : Int) : Int × Bool := if mostOk l n then ((sortE l).getD (l.length - (majE n).toNat) 0, true) else (0, false)
theorem maj_range {n : Int} (h : sitesE n = true) : 2 ≤ majE n ∧ majE n ≤ n ∧ n ≤ 7 ∧ n < 2 * majE n ∧ 2 * (majE n - 1) ≤ n := by
  unfold majE
  rw [if_pos h]
  rcases sites_cases h with rfl | rfl | rfl | rfl | rfl | rfl <;> omega
theorem maj_zero {n : Int} : majE n = 0 ↔ sitesE n = false := by
  constructor
  · intro h
    cases hs : sitesE n
    · rfl
    · have := (maj_range hs).1; omega
  · intro h; unfold majE; rw [if_neg (by rw [h]; simp)]
theorem cell_holds {w : World} {g : Nat} {S : List Int} (h : Holds (Value.int .i64) w g 0 S.toArray) (j : Nat) (hj : j < S.length) : w.cell? ⟨g, j, none⟩ = some (.int .i64 (S.getD j 0)) := by
  have h1 := (h j (by simpa using hj)).1
  rw [Nat.zero_add] at h1
  rw [h1, getElem!_pos _ j (by simpa using hj)]
  simp [List.getD, List.getElem?_eq_getElem hj]
theorem ret_most {a a' : Int} {b b' : Bool} (h1 : a = a') (h2 : b = b') : Ending.returned (.tuple #[.int .i64 a, .bool b]) = .returned (.tuple #[.int .i64 a', .bool b']) := by rw [h1, h2]

set_option maxHeartbeats 2000000 in
theorem most_any (l : List Int) (A : Option Addr) (c : Nat) (n : Int) (w : World) (hl : Nums w w.heap.size A .i64 l) (hll : l.length ≤ 9223372036854775807) :
    Calls Try.prog 59 #[.slice A l.length c, .int .i64 n] w fun e w' => e = .returned (.tuple #[.int .i64 (mostE l n).1, .bool (mostE l n).2]) ∧ Below w.heap.size w w' := by
  have hw := Below.refl w.heap.size w
  by_cases h0 : majE n = 0
  · have h0b : (majE n == 0) = true := by rw [beq_iff_eq]; exact h0
    have hN := Lib.hid (show mostE l n = (0, false) from if_neg (fun h => by have := (maj_range h.1).1; omega))
    clear hl h0
    go_enter Try.func59, Try.ntmps59
    go_wp2_with fail
    refine (maj_any n w).mono ?_
    rintro e w1 ⟨rfl, rfl⟩
    go_wp2_with fail
    go_ret2
    rw [hN.out]
    exact ⟨rfl, hw⟩
  have h0b : (majE n == 0) = false := by rw [beq_eq_false_iff_ne]; exact h0
  have hs : sitesE n = true := by
    cases hs : sitesE n
    · exact absurd (maj_zero.2 hs) h0
    · rfl
  by_cases h1 : n < (l.length : Int)
  · have hN := Lib.hid (show mostE l n = (0, false) from if_neg (fun h => by have := h.2.1; omega))
    clear hl h0 hs
    go_enter Try.func59, Try.ntmps59
    go_wp2_with fail
    refine (maj_any n w).mono ?_
    rintro e w1 ⟨rfl, rfl⟩
    go_wp2_with fail
    go_ret2
    rw [hN.out]
    exact ⟨rfl, hw⟩
  by_cases h2 : (l.length : Int) < majE n
  · have hN := Lib.hid (show mostE l n = (0, false) from if_neg (fun h => by have := h.2.2; omega))
    clear hl h0 hs
    go_enter Try.func59, Try.ntmps59
    go_wp2_with fail
    refine (maj_any n w).mono ?_
    rintro e w1 ⟨rfl, rfl⟩
    go_wp2_with fail
    go_ret2
    rw [hN.out]
    exact ⟨rfl, hw⟩
  have hr := maj_range hs
  have hN := Lib.hid (show mostE l n = ((sortE l).getD (l.length - (majE n).toNat) 0, true) from if_pos ⟨hs, by omega, by omega⟩)
  obtain ⟨k, hk⟩ := Int.eq_ofNat_of_zero_le (show 0 ≤ majE n by omega)
  have hc := maj_any n w
  rw [hk] at hc h0b h2 hr hN
  have HC := Lib.hid hc
  have hlen : 0 < l.length := by omega
  have hl7 : l.length ≤ 7 := by omega
  obtain ⟨b, off, hA, hb, hcells⟩ := hl hlen
  subst hA
  have hclone := sh_slices_Clone_int b off l.length c l w (Nat.le_refl _) (by omega) (fun j hj => by
    rw [hcells j _ (List.getElem?_eq_getElem hj)]
    simp [List.getD, List.getElem?_eq_getElem hj])
  have HCL := Lib.hid hclone
  clear hc hclone hcells h0 hk hs hl
  have hkl : k ≤ l.length := by omega
  go_enter Try.func59, Try.ntmps59
  go_wp2_with fail
  refine HC.out.mono ?_
  rintro e w1 ⟨rfl, rfl⟩
  go_wp2_with fail
  refine HCL.out.mono ?_
  rintro e w2 ⟨v1, rfl, hown, hnn, hbel⟩
  rw [List.take_length] at hown
  obtain ⟨g, cap, rfl, hbg, hgl, hncap, hcm, _, hH⟩ := Lib.holds_of_ownsRow hown hnn
  have hsort := sh_slices_Sort_int g 0 cap l w2 hH hgl (by omega)
  have HS := Lib.hid hsort
  have X := Lib.hid (And.intro hbel (And.intro hbg (And.intro hgl hH)))
  clear hown hnn hbel hH hsort HC HCL
  go_wp2_with fail
  refine HS.out.mono ?_
  rintro e w3 ⟨rfl, nn, os, hw3⟩
  have hH3 : Holds (Value.int .i64) w3 g 0 (sortE l).toArray := by
    subst hw3
    exact holds_grow _ _ os g 0 _ (by simpa [putRow, mapBlock, Sort.ahead] using X.out.2.2.1) (holds_putRow _ _ g 0 _ _ (holds_ahead _ w2 nn g 0 _ X.out.2.2.2) (by simp))
  have hB3 : Below w1.heap.size w1 w3 := by
    subst hw3
    exact X.out.1.grown (grownBy_sortedI _) X.out.1.size (fun j hj => by cases hj; exact X.out.2.1)
  obtain ⟨S, hS⟩ : ∃ S : List Int, S = sortE l := ⟨_, rfl⟩
  rw [← hS] at hH3 hN
  have hSl : S.length = l.length := by rw [hS]; exact List.length_mergeSort l
  have hi : l.length - k < S.length := by omega
  have cS := cell_holds hH3 _ hi
  have wk : wrap64 ((l.length : Int) - (k : Int)) = ((l.length - k : Nat) : Int) := by unfold wrap64; omega
  have wk2 : IntKind.i64.wrap ((l.length : Int) - (k : Int)) = ((l.length - k : Nat) : Int) := by rw [IntWalk.i64_in _ (by omega)]; omega
  have Y := Lib.hid (And.intro hB3 hN)
  clear hH3 hB3 hS hw3 HS X hN
  go_wp2_with fail
  go_ret2
  rw [Y.out.2.out]
  exact ⟨rfl, Y.out.1⟩
end Go.Proofs.Ytdphfhenjndkkaa

set_option linter.unusedSimpArgs false
set_option linter.unusedVariables false
set_option maxRecDepth 100000
namespace Go.Proofs.Ytdphfhenjndkkaa
open Go Go.RowKit Go.Sq Go.Wd Go.Arch

structure OwnS where
  stream : Int
  epoch : Int
  site : Int
  n : Int
  has : Nat → Int
  st : Nat → Int
  fz : Bool
  target : Int
def up7 (f : Nat → Int) (k : Nat) (x : Int) : Nat → Int := fun i => if i = k then x else f i
theorem up7_at (f : Nat → Int) (k : Nat) (x : Int) : up7 f k x k = x := if_pos rfl
theorem up7_far (f : Nat → Int) {k i : Nat} (x : Int) (h : i ≠ k) : up7 f k x i = f i := if_neg h
def seven (f : Nat → Int) : List Int := [f 0, f 1, f 2, f 3, f 4, f 5, f 6]
def sevenV (f : Nat → Int) : List Value := [.int .i64 (f 0), .int .i64 (f 1), .int .i64 (f 2), .int .i64 (f 3), .int .i64 (f 4), .int .i64 (f 5), .int .i64 (f 6)]
theorem sevenV_at (f : Nat → Int) {k : Nat} (h : k < 7) : (sevenV f)[k]? = some (.int .i64 (f k)) := by
  obtain rfl | rfl | rfl | rfl | rfl | rfl | rfl := cases7 h
  all_goals rfl
theorem sevenV_set (f : Nat → Int) {k : Nat} (h : k < 7) (x : Int) : (sevenV f).set k (.int .i64 x) = sevenV (up7 f k x) := by
  obtain rfl | rfl | rfl | rfl | rfl | rfl | rfl := cases7 h
  all_goals rfl
def ownv (o : OwnS) : List Value := [.int .i64 o.stream, .int .i64 o.epoch, .int .i64 o.site, .int .i64 o.n] ++ (sevenV o.has ++ (sevenV o.st ++ [.bool o.fz, .int .i64 o.target]))
theorem ownv_has (o : OwnS) {k : Nat} (h : k < 7) : (ownv o)[4 + k]? = some (.int .i64 (o.has k)) := by
  obtain rfl | rfl | rfl | rfl | rfl | rfl | rfl := cases7 h
  all_goals rfl
theorem ownv_st (o : OwnS) {k : Nat} (h : k < 7) : (ownv o)[11 + k]? = some (.int .i64 (o.st k)) := by
  obtain rfl | rfl | rfl | rfl | rfl | rfl | rfl := cases7 h
  all_goals rfl
theorem ownv_hass (o : OwnS) : ∀ j, j < (sevenV o.has).length → (ownv o)[4 + j]? = (sevenV o.has)[j]? := fun j h => by
  obtain rfl | rfl | rfl | rfl | rfl | rfl | rfl := cases7 h
  all_goals rfl
theorem ownv_sts (o : OwnS) : ∀ j, j < (sevenV o.st).length → (ownv o)[11 + j]? = (sevenV o.st)[j]? := fun j h => by
  obtain rfl | rfl | rfl | rfl | rfl | rfl | rfl := cases7 h
  all_goals rfl
theorem ownv_setHas (o : OwnS) {k : Nat} (h : k < 7) (x : Int) : (ownv o).set (4 + k) (.int .i64 x) = ownv { o with has := up7 o.has k x } := by
  obtain rfl | rfl | rfl | rfl | rfl | rfl | rfl := cases7 h
  all_goals rfl
theorem ownv_setSt (o : OwnS) {k : Nat} (h : k < 7) (x : Int) : (ownv o).set (11 + k) (.int .i64 x) = ownv { o with st := up7 o.st k x } := by
  obtain rfl | rfl | rfl | rfl | rfl | rfl | rfl := cases7 h
  all_goals rfl
theorem own_info : (Try.prog.info? 116).map (·.size) = some 20 := by kernel_rfl
theorem seven_info : (Try.prog.info? 76).map (·.size) = some 7 := by kernel_rfl
theorem sevenV_one (f : Nat → Int) : ∀ v ∈ sevenV f, v.oneCell' = true := by simp [sevenV, Value.oneCell']

/-- Mail to the owner. -/
def mineO (o : OwnS) (m : MailS) (k : Int) : Prop := m.kind = k ∧ m.stream = o.stream ∧ m.epoch = o.epoch ∧ m.to = o.site ∧ 0 ≤ m.from_ ∧ m.from_ < o.n ∧ m.from_ ≠ o.site
instance (o : OwnS) (m : MailS) (k : Int) : Decidable (mineO o m k) := by unfold mineO; infer_instance
def ackOk (o : OwnS) (m : MailS) : Prop := mineO o m 5 ∧ 0 ≤ m.len
instance (o : OwnS) (m : MailS) : Decidable (ackOk o m) := by unfold ackOk; infer_instance
def ackS (o : OwnS) (m : MailS) : OwnS := if ackOk o m then { o with has := up7 o.has m.from_.toNat (max (o.has m.from_.toNat) m.len), st := up7 o.st m.from_.toNat (max (o.st m.from_.toNat) m.stamp) } else o
/-- Those that have told a number, of the first n. -/
def toldE (f : Nat → Int) (n : Int) : List Int := ((seven f).take n.toNat).filter fun x => !decide (x < 0)
def mostO (f : Nat → Int) (n : Int) : Int × Bool := mostE (toldE f n) n
def commitO (o : OwnS) : Int := if (mostO o.has o.n).2 = true then (mostO o.has o.n).1 else 0
def untilO (o : OwnS) (now : Int) : Int :=
  if (mostO (up7 o.st o.site.toNat now) o.n).2 = true ∧ (mostO (up7 o.st o.site.toNat now) o.n).1 ≤ 1073741824 then (mostO (up7 o.st o.site.toNat now) o.n).1 + 10 else 0
def openO (o : OwnS) (now : Int) : Bool := !o.fz && decide (now < untilO o now)
/-- An owner that may be. -/
def FineO (o : OwnS) : Prop := sitesE o.n = true ∧ 0 ≤ o.site ∧ o.site < o.n

theorem onone_any (g : Nat) (n : Int) (w : World) (h : w.cell? ⟨g, 3, none⟩ = some (.int .i64 n)) :
    Calls Try.prog 57 #[.pointer (some ⟨g, 0, none⟩)] w fun e w' => e = .returned (.bool (n == 0)) ∧ w' = w := by
  go_enter Try.func57, Try.ntmps57
  go_wp2_with fail
  go_ret
  exact ⟨rfl, rfl⟩
theorem told1_any (x : Int) (w : World) : Calls Try.prog 86 #[.int .i64 x] w fun e w' => e = .returned (.bool (decide (x < 0))) ∧ ∃ q, w' = w.drewN q := by
  go_enter Try.func86, Try.ntmps86
  go_wp2
  all_goals (go_ret; exact ⟨ret_bool (by simp_all), 0, rfl⟩)
end Go.Proofs.Ytdphfhenjndkkaa

set_option linter.unusedSimpArgs false
set_option linter.unusedVariables false
set_option maxRecDepth 100000
namespace Go.Proofs.Ytdphfhenjndkkaa
open Go Go.RowKit Go.Sq Go.Wd Go.Arch Go.Shelf Go.Sort

theorem del_any (g cap : Nat) (d : Array Int) (w : World) (hH : Holds (Value.int .i64) w g 0 d) (hg : g < w.heap.size) (hsz : d.size ≤ 9223372036854775807) (hcap : d.size ≤ cap) :
    Calls Try.prog 85 #[.slice (some ⟨g, 0, none⟩) d.size cap, .func (.func 86) #[] #[]] w fun e w' => e = .returned (.slice (some ⟨g, 0, none⟩) (d.toList.filter fun x => !decide (x < 0)).length cap) ∧
      Nums w' w'.heap.size (some ⟨g, 0, none⟩) .i64 (d.toList.filter fun x => !decide (x < 0)) ∧ ∀ B, B ≤ g → Below B w w' := by
  have eg : ∀ args w, (callFunc 86 args).run Try.prog w = .ok (.enter 86 args) w := enters_of Try.func86 (by kernel_rfl) rfl
  have hpr : ∀ (W : World) (x : Int), FnGives Try.prog 86 #[] #[.int .i64 x] (.bool (decide (x < 0))) W := fun W x => told1_any x W
  have hcon := AnyE.slices_DeleteFunc laysDel (Value.int .i64) (fun _ => rfl) (fun x => decide (x < 0)) 86 #[] eg 0 (Try.zeroValue3) g 0 cap d w
    (fun W x _ => hpr W x) (fun n os dk x _ => hpr _ x) hH hsz hcap
  change Calls Try.prog 85 _ _ _ at hcon
  refine hcon.mono ?_
  rintro e w' ⟨rfl, q, rfl⟩
  have hle : (d.toList.filter fun x => !decide (x < 0)).length ≤ d.size := by
    have := List.length_filter_le (fun x : Int => !decide (x < 0)) d.toList
    simpa using this
  have hsame : ((d.toList.filter fun x => !decide (x < 0)) ++ List.replicate (d.size - (d.toList.filter fun x => !decide (x < 0)).length) (0 : Int)).toArray.size = d.size := by
    simp
    have : (List.filter (fun x => decide (0 ≤ x)) d.toList).length ≤ d.size := by
      have := List.length_filter_le (fun x : Int => decide (0 ≤ x)) d.toList
      simpa using this
    omega
  have hH2 := holds_putRow (Value.int .i64) (Sort.ahead w q) g 0 d _ (holds_ahead _ w q g 0 _ hH) hsame
  refine ⟨rfl, fun _ => ⟨g, 0, rfl, by simpa [putRow, mapBlock, Sort.ahead] using hg, fun i x hx => ?_⟩, fun B hB => Lib.below_putRow (Below.refl B w) hB⟩
  have hi : i < (d.toList.filter fun x => !decide (x < 0)).length := (List.getElem?_eq_some_iff.1 hx).1
  have := (hH2 i (by rw [hsame]; omega)).1
  rw [this]
  congr 2
  rw [getElem!_pos _ i (by rw [hsame]; omega)]
  simp only [List.getElem_toArray]
  rw [List.getElem_append_left hi]
  exact (List.getElem?_eq_some_iff.1 hx).2

theorem seven_len (f : Nat → Int) : (seven f).length = 7 := rfl
theorem sevenV_map (f : Nat → Int) : sevenV f = (seven f).map (Value.int .i64) := rfl

set_option maxHeartbeats 2000000 in
theorem told_any (g : Nat) (f : Nat → Int) (n : Int) (w : World) (hc : w.cell? ⟨g, 3, none⟩ = some (.int .i64 n)) (hn : sitesE n = true) :
    Calls Try.prog 60 #[.pointer (some ⟨g, 0, none⟩), .agg (sevenV f).toArray] w fun e w' => ∃ A c, e = .returned (.slice A (toldE f n).length c) ∧ Nums w' w'.heap.size A .i64 (toldE f n) ∧ (toldE f n).length ≤ c ∧ Below w.heap.size w w' := by
  have hn7 := sites_cases hn
  obtain ⟨N, hN⟩ := Int.eq_ofNat_of_zero_le (show 0 ≤ n by omega)
  have hN7 : 2 ≤ N ∧ N ≤ 7 := by omega
  have hte : toldE f n = (((seven f).take N).filter fun x => !decide (x < 0)) := by
    unfold toldE
    rw [hN]
    rfl
  rw [hte]
  rw [hN] at hc
  have hw0 : Below w.heap.size w (w.alloc (.cells (sevenV f).toArray 76)) := (Below.refl _ _).alloc (Nat.le_refl _) _
  have hbx : Blk (w.alloc (.cells (sevenV f).toArray 76)) w.heap.size 76 (sevenV f) := Blk.new w _ _
  have hg : g < w.heap.size := World.block_lt_of_cell? _ _ hc
  have hcl := sh_slices_Clone_int w.heap.size 0 N 7 (seven f) (w.alloc (.cells (sevenV f).toArray 76)) (by rw [seven_len]; omega) (by omega) (fun j hj => by
    rw [Nat.zero_add, hbx.cell, sevenV_map, List.getElem?_map, List.getElem?_eq_getElem hj]
    simp [List.getD, List.getElem?_eq_getElem hj])
  have HCL := Lib.hid hcl
  have HW := Lib.hid hw0
  have k0 : (0 : Int) ≤ (N : Int) := by omega
  have k7 : (N : Int) ≤ 7 := by omega
  have hgs : ¬ g = w.heap.size := by omega
  clear hcl hbx hw0 hte hn hn7 hN
  go_enter Try.func60, Try.ntmps60
  go_wp2_with fail
  refine HCL.out.mono ?_
  rintro e w2 ⟨v1, rfl, hown, hnn, hbel⟩
  obtain ⟨g1, cap, rfl, hbg, hgl, hncap, hcm, _, hH⟩ := Lib.holds_of_ownsRow hown hnn
  have hln : ((seven f).take N).length = N := by rw [List.length_take, seven_len]; omega
  have hdel := del_any g1 cap ((seven f).take N).toArray w2 hH hgl (by simp only [List.size_toArray]; omega) (by simp only [List.size_toArray]; omega)
  simp only [List.size_toArray, hln] at hdel
  have HD := Lib.hid hdel
  have hb2 := below_trans HW.out hbel HW.out.size
  have HX := Lib.hid (And.intro hb2 (And.intro (show w.heap.size ≤ g1 by have := HW.out.size; omega) (show N ≤ cap by omega)))
  clear hown hnn hbel hH hdel HCL hb2
  go_wp2_with fail
  refine HD.out.mono ?_
  rintro e w3 ⟨rfl, hNu, hBu⟩
  have HY := Lib.hid (And.intro hNu (HX.out.1.trans (hBu _ HX.out.2.1)))
  have hfl : (List.filter (fun x => !decide (x < 0)) ((seven f).take N)).length ≤ N := by
    have := List.length_filter_le (fun x : Int => !decide (x < 0)) ((seven f).take N)
    omega
  clear hNu hBu HD
  go_wp2_with fail
  go_ret
  exact ⟨_, cap, rfl, HY.out.1, by have := HX.out.2.2; omega, HY.out.2⟩
end Go.Proofs.Ytdphfhenjndkkaa

set_option linter.unusedSimpArgs false
set_option linter.unusedVariables false
set_option maxRecDepth 100000
namespace Go.Proofs.Ytdphfhenjndkkaa
open Go Go.RowKit Go.Sq Go.Wd Go.Arch

theorem sortE_mem {l : List Int} {x : Int} : x ∈ sortE l ↔ x ∈ l := (List.mergeSort_perm l _).mem_iff
theorem mostO_pos {f : Nat → Int} {n : Int} : 0 ≤ (mostO f n).1 := by
  unfold mostO mostE
  split
  · show 0 ≤ (sortE (toldE f n)).getD _ 0
    generalize (toldE f n).length - (majE n).toNat = i
    cases h : (sortE (toldE f n))[i]? with
    | none => simp [List.getD, h]
    | some x =>
      have hx : x ∈ toldE f n := sortE_mem.1 (List.mem_of_getElem? h)
      unfold toldE at hx
      have := (List.mem_filter.1 hx).2
      simp [List.getD, h]
      simpa using this
  · exact Int.le_refl _

set_option maxHeartbeats 4000000 in
theorem commit_any (g : Nat) (o : OwnS) (w : World) (hb : Blk w g 116 (ownv o)) (hn : sitesE o.n = true) :
    Calls Try.prog 29 #[.pointer (some ⟨g, 0, none⟩)] w fun e w' => e = .returned (.int .i64 (commitO o)) ∧ Below w.heap.size w w' := by
  have hw : Below w.heap.size w w := Below.refl _ _
  have H := Lib.hid hb
  have c3 : w.cell? ⟨g, 3, none⟩ = some (.int .i64 o.n) := hb.cell 3
  have hz : (o.n == 0) = false := by rw [beq_eq_false_iff_ne]; rcases sites_cases hn with e | e | e | e | e | e <;> omega
  have FC : ∀ w', Below w.heap.size w w' → w'.cell? ⟨g, 3, none⟩ = some (.int .i64 o.n) := fun w' h => (H.out.keep h).cell 3
  have HN := Lib.hid hn
  clear hb hn
  go_enter Try.func29, Try.ntmps29
  go_wp2_with fail
  refine (onone_any g o.n w c3).mono ?_
  rintro e w1 ⟨rfl, rfl⟩
  rw [hz]
  clear c3
  go_wp2_with fail
  refine wp_region_p ([(0, true), (1, true), (2, true), (3, true), (4, true), (6, true), (7, true), (8, true), (9, true), (5, false), (10, false), (11, true), (12, true), (13, true), (14, true), (15, true)]) (fun w' => Below w1.heap.size w1 w') (by kernel_rfl) rfl (by kernel_rfl) (by kernel_rfl) (hw.drew) rfl ?_
  intro KP RP TP hKP hTP hTP'
  simp only [List.append_eq, List.cons_append, List.nil_append, pick, nth]
  go_wp2_with (first
    | (apply SeqP.skip; rfl; simp only [Act.put, List.setIfInBounds_toArray, List.set_cons_zero, List.set_cons_succ])
    | (apply SeqP.pure; rfl; (intro w2 hw; have hw := hTP _ hw; exact exec_load_part 76 _ rfl g 4 rfl _ _ (sevenV o.has) (H.out.keep hw) (ownv_hass o) _ Try.underlying76 rfl seven_info); simp only [Act.put, List.setIfInBounds_toArray, List.set_cons_zero, List.set_cons_succ])
    | (apply SeqP.call; rfl; rfl; (intro w2 hw; have hw := hTP _ hw; ((have q3 := FC _ hw)); go_simp; exact ⟨rfl, rfl⟩); (intro w2 hw; have hw := hTP _ hw; ((have q3 := FC _ hw)); (first | fail)); simp only [Act.put, List.setIfInBounds_toArray, List.set_cons_zero, List.set_cons_succ])
    | (apply SeqP.pure; rfl; (intro w2 hw; have hw := hTP _ hw; ((have q3 := FC _ hw)); go_simp; with_reducible rfl); simp only [Act.put, List.setIfInBounds_toArray, List.set_cons_zero, List.set_cons_succ])
    | (apply SeqP.split; rfl; rfl; all_goals (intro hc; simp only [hc]; try simp only [beq_iff_eq, decide_eq_true_eq, beq_eq_false_iff_ne, decide_eq_false_iff_not, bne_iff_ne, ne_eq, Bool.not_eq_true', Bool.not_eq_false', Int.not_le, Int.not_lt, bne_eq_false_iff_eq, Bool.or_eq_true, Bool.and_eq_true, Bool.or_eq_false_iff] at hc)))
  apply SeqP.eff
  · rfl
  intro KE hKE
  go_wp2_with fail
  refine (told_any g o.has o.n w1.drew (FC _ hw.drew) HN.out).mono ?_
  rintro e w2 ⟨A, c, rfl, hNu, hlc, hb2⟩
  have hw2 := below_trans hw.drew hb2 hw.drew.size
  refine hKE _ _ (hTP' _ hw2) ?_
  clear hKE hb2
  have HNu := Lib.hid hNu
  clear hNu
  go_wp2_with (first
    | (apply SeqP.skip; rfl; simp only [Act.put, List.setIfInBounds_toArray, List.set_cons_zero, List.set_cons_succ])
    | (apply SeqP.call; rfl; rfl; (intro w2 hw; have hw := hTP _ hw; ((have q3 := FC _ hw)); go_simp; exact ⟨rfl, rfl⟩); (intro w2 hw; have hw := hTP _ hw; ((have q3 := FC _ hw)); (first | fail)); simp only [Act.put, List.setIfInBounds_toArray, List.set_cons_zero, List.set_cons_succ])
    | (apply SeqP.pure; rfl; (intro w2 hw; have hw := hTP _ hw; ((have q3 := FC _ hw)); go_simp; with_reducible rfl); simp only [Act.put, List.setIfInBounds_toArray, List.set_cons_zero, List.set_cons_succ])
    | (apply SeqP.split; rfl; rfl; all_goals (intro hc; simp only [hc]; try simp only [beq_iff_eq, decide_eq_true_eq, beq_eq_false_iff_ne, decide_eq_false_iff_not, bne_iff_ne, ne_eq, Bool.not_eq_true', Bool.not_eq_false', Int.not_le, Int.not_lt, bne_eq_false_iff_eq, Bool.or_eq_true, Bool.and_eq_true, Bool.or_eq_false_iff] at hc)))
  apply SeqP.eff
  · rfl
  intro KE hKE
  go_wp2_with fail
  refine (most_any (toldE o.has o.n) A c o.n w2 HNu.out (by have : (toldE o.has o.n).length ≤ 7 := (by unfold toldE; exact Nat.le_trans (List.length_filter_le _ _) (by rw [List.length_take, seven_len]; exact Nat.min_le_right _ _)); omega)).mono ?_
  rintro e w3 ⟨rfl, hb3⟩
  have hw3 := below_trans hw2 hb3 hw2.size
  refine hKE _ _ (hTP' _ hw3) ?_
  clear hKE hb3
  have HC : Hid (commitO o = if (mostE (toldE o.has o.n) o.n).2 = true then (mostE (toldE o.has o.n) o.n).1 else 0) := Lib.hid rfl
  generalize mostE (toldE o.has o.n) o.n = z at HC ⊢
  obtain ⟨z1, z2⟩ := z
  go_wp2_with (first
    | (apply SeqP.skip; rfl; simp only [Act.put, List.setIfInBounds_toArray, List.set_cons_zero, List.set_cons_succ])
    | (apply SeqP.call; rfl; rfl; (intro w2 hw; have hw := hTP _ hw; ((have q3 := FC _ hw)); go_simp; exact ⟨rfl, rfl⟩); (intro w2 hw; have hw := hTP _ hw; ((have q3 := FC _ hw)); (first | fail)); simp only [Act.put, List.setIfInBounds_toArray, List.set_cons_zero, List.set_cons_succ])
    | (apply SeqP.pure; rfl; (intro w2 hw; have hw := hTP _ hw; ((have q3 := FC _ hw)); go_simp; with_reducible rfl); simp only [Act.put, List.setIfInBounds_toArray, List.set_cons_zero, List.set_cons_succ])
    | (apply SeqP.split; rfl; rfl; all_goals (intro hc; simp only [hc]; try simp only [beq_iff_eq, decide_eq_true_eq, beq_eq_false_iff_ne, decide_eq_false_iff_not, bne_iff_ne, ne_eq, Bool.not_eq_true', Bool.not_eq_false', Int.not_le, Int.not_lt, bne_eq_false_iff_eq, Bool.or_eq_true, Bool.and_eq_true, Bool.or_eq_false_iff] at hc)))
  apply SeqP.nil
  refine hKP _ _ (hTP' _ (hw3)) ?_
  clear hKP hTP hTP'
  cases z2 with
  | true =>
    go_wp2_with fail
    go_ret
    rw [HC.out]
    exact ⟨rfl, hw3⟩
  | false =>
    go_wp2_with fail
    go_ret
    rw [HC.out]
    exact ⟨rfl, hw3⟩

set_option maxHeartbeats 4000000 in
theorem until_any (g : Nat) (o : OwnS) (now : Int) (w : World) (hb : Blk w g 116 (ownv o)) (hF : FineO o) :
    Calls Try.prog 30 #[.pointer (some ⟨g, 0, none⟩), .int .i64 now] w fun e w' => e = .returned (.int .i64 (untilO o now)) ∧ Below w.heap.size w w' := by
  obtain ⟨hn, hs0, hsn⟩ := hF
  have hw : Below w.heap.size w w := Below.refl _ _
  have H := Lib.hid hb
  have c3 : w.cell? ⟨g, 3, none⟩ = some (.int .i64 o.n) := hb.cell 3
  have hz : (o.n == 0) = false := by rw [beq_eq_false_iff_ne]; rcases sites_cases hn with e | e | e | e | e | e <;> omega
  have FC : ∀ w', Below w.heap.size w w' → w'.cell? ⟨g, 3, none⟩ = some (.int .i64 o.n) := fun w' h => (H.out.keep h).cell 3
  have HN := Lib.hid hn
  obtain ⟨K, hK⟩ := Int.eq_ofNat_of_zero_le hs0
  have hK7 : K < 7 := by have := sites_cases hn; omega
  have k0 : (0 : Int) ≤ (K : Int) := by omega
  have k7 : (K : Int) < 7 := by omega
  have hKn : o.site.toNat = K := by omega
  have c2 : w.cell? ⟨g, 2, none⟩ = some (.int .i64 (K : Int)) := by rw [← hK]; exact hb.cell 2
  have lg := hb.lt
  have hgs : ¬ g = w.heap.size := by omega
  clear hb hn
  go_enter Try.func30, Try.ntmps30
  go_wp2_with fail
  refine (onone_any g o.n w c3).mono ?_
  rintro e w1 ⟨rfl, rfl⟩
  rw [hz]
  clear c3
  go_wp2_with ((with_reducible refine at_list ?_); first | (refine wpList_load_part rfl 76 _ rfl g 11 rfl _ _ (sevenV o.st) H.out (ownv_sts o) _ Try.underlying76 rfl seven_info ?_) | (refine wpList_store_own rfl 76 _ _ rfl _ (sevenV o.st) rfl rfl _ _ (Blk.new w1 76 (sevenV (fun _ => 0))) seven_info rfl (sevenV_one _) ?_; intro w2 B2 g2; have hb12 : Below w1.heap.size w1 w2 := ((Below.refl _ _).alloc (Nat.le_refl _) _).trans (Go.Wd.below_grown g2 (Nat.le_refl _) (by simp)); have c22 : w2.cell? ⟨g, 2, none⟩ = some (.int .i64 (K : Int)) := (hb12.cell (p := ⟨g, 2, none⟩) lg).trans c2; have hsk : w2.cell? ⟨w1.heap.size, K, none⟩ = some (.int .i64 (o.st K)) := (by rw [B2.cell, sevenV_at _ hK7]); have hfr : w2.frozen? ⟨w1.heap.size, K, none⟩ = false := B2.frozen K))
  have B3 : Blk (w2.setCell ⟨w1.heap.size, K, none⟩ (.int .i64 now)) w1.heap.size 76 (sevenV (up7 o.st K now)) := by
    rw [← sevenV_set o.st hK7]
    exact B2.set K _
  have hb3 : Below w1.heap.size w1 (w2.setCell ⟨w1.heap.size, K, none⟩ (.int .i64 now)) := hb12.trans (Go.Wd.below_grown (only_setCell (World.grownBy.refl w2 _) (.inl rfl) _) (Nat.le_refl _) hb12.size)
  have HB := Lib.hid (And.intro hb3 B3)
  have hU : Hid (untilO o now = if (mostE (toldE (up7 o.st K now) o.n) o.n).2 = true ∧ (mostE (toldE (up7 o.st K now) o.n) o.n).1 ≤ 1073741824 then (mostE (toldE (up7 o.st K now) o.n) o.n).1 + 10 else 0) := Lib.hid (by unfold untilO mostO; rw [hKn])
  have hpos := mostO_pos (f := up7 o.st K now) (n := o.n)
  unfold mostO at hpos
  clear hb3 B3 hsk hfr c22 hb12 B2 g2 c2
  generalize (w2.setCell ⟨w1.heap.size, K, none⟩ (.int .i64 now)) = w3 at *
  have hwd := HB.out.1.drew
  have HBd := Lib.hid HB.out.2.drew
  obtain ⟨gl, hgl⟩ : ∃ gl, w1.heap.size = gl := ⟨_, rfl⟩
  have HL := Lib.hid (show Below w1.heap.size w1 w3.drew ∧ Blk w3.drew gl 76 (sevenV (up7 o.st K now)) from ⟨hwd, by rw [← hgl]; exact HBd.out⟩)
  have HG := Lib.hid hgl
  rw [hgl]
  clear hwd HBd HB hgl
  refine wp_region_p ([(0, true), (1, true), (3, true), (4, true), (5, true), (6, true), (2, false), (7, false), (8, true), (9, true), (10, true), (11, true), (12, true)]) (fun w' => Below w1.heap.size w1 w' ∧ Blk w' gl 76 (sevenV (up7 o.st K now))) (by kernel_rfl) rfl (by kernel_rfl) (by kernel_rfl) (HL.out) rfl ?_
  intro KP RP TP hKP hTP hTP'
  simp only [List.append_eq, List.cons_append, List.nil_append, pick, nth]
  go_wp2_with (first
    | (apply SeqP.skip; rfl; simp only [Act.put, List.setIfInBounds_toArray, List.set_cons_zero, List.set_cons_succ])
    | (apply SeqP.pure; rfl; (intro w2 hw; have hw := hTP _ hw; exact exec_load_blk 76 _ rfl _ rfl _ _ hw.2 _ Try.underlying76 rfl seven_info); simp only [Act.put, List.setIfInBounds_toArray, List.set_cons_zero, List.set_cons_succ])
    | (apply SeqP.call; rfl; rfl; (intro w2 hw; have hw := hTP _ hw; ((have q3 := FC _ hw.1)); go_simp; exact ⟨rfl, rfl⟩); (intro w2 hw; have hw := hTP _ hw; ((have q3 := FC _ hw.1)); (first | fail)); simp only [Act.put, List.setIfInBounds_toArray, List.set_cons_zero, List.set_cons_succ])
    | (apply SeqP.pure; rfl; (intro w2 hw; have hw := hTP _ hw; ((have q3 := FC _ hw.1)); go_simp; with_reducible rfl); simp only [Act.put, List.setIfInBounds_toArray, List.set_cons_zero, List.set_cons_succ])
    | (apply SeqP.split; rfl; rfl; all_goals (intro hc; simp only [hc]; try simp only [beq_iff_eq, decide_eq_true_eq, beq_eq_false_iff_ne, decide_eq_false_iff_not, bne_iff_ne, ne_eq, Bool.not_eq_true', Bool.not_eq_false', Int.not_le, Int.not_lt, bne_eq_false_iff_eq, Bool.or_eq_true, Bool.and_eq_true, Bool.or_eq_false_iff] at hc)))
  apply SeqP.eff
  · rfl
  intro KE hKE
  go_wp2_with fail
  refine (told_any g (up7 o.st K now) o.n w3.drew (FC _ HL.out.1) HN.out).mono ?_
  rintro e w4 ⟨A, c, rfl, hNu, hlc, hb4⟩
  have h4 : Below w1.heap.size w1 w4 ∧ Blk w4 gl 76 (sevenV (up7 o.st K now)) := ⟨below_trans HL.out.1 hb4 HL.out.1.size, HL.out.2.keep hb4⟩
  refine hKE _ _ (hTP' _ h4) ?_
  clear hKE hb4
  have HNu := Lib.hid hNu
  clear hNu
  go_wp2_with (first
    | (apply SeqP.skip; rfl; simp only [Act.put, List.setIfInBounds_toArray, List.set_cons_zero, List.set_cons_succ])
    | (apply SeqP.call; rfl; rfl; (intro w2 hw; have hw := hTP _ hw; ((have q3 := FC _ hw.1)); go_simp; exact ⟨rfl, rfl⟩); (intro w2 hw; have hw := hTP _ hw; ((have q3 := FC _ hw.1)); (first | fail)); simp only [Act.put, List.setIfInBounds_toArray, List.set_cons_zero, List.set_cons_succ])
    | (apply SeqP.pure; rfl; (intro w2 hw; have hw := hTP _ hw; ((have q3 := FC _ hw.1)); go_simp; with_reducible rfl); simp only [Act.put, List.setIfInBounds_toArray, List.set_cons_zero, List.set_cons_succ])
    | (apply SeqP.split; rfl; rfl; all_goals (intro hc; simp only [hc]; try simp only [beq_iff_eq, decide_eq_true_eq, beq_eq_false_iff_ne, decide_eq_false_iff_not, bne_iff_ne, ne_eq, Bool.not_eq_true', Bool.not_eq_false', Int.not_le, Int.not_lt, bne_eq_false_iff_eq, Bool.or_eq_true, Bool.and_eq_true, Bool.or_eq_false_iff] at hc)))
  apply SeqP.eff
  · rfl
  intro KE hKE
  go_wp2_with fail
  refine (most_any (toldE (up7 o.st K now) o.n) A c o.n w4 HNu.out (by have : (toldE (up7 o.st K now) o.n).length ≤ 7 := (by unfold toldE; exact Nat.le_trans (List.length_filter_le _ _) (by rw [List.length_take, seven_len]; exact Nat.min_le_right _ _)); omega)).mono ?_
  rintro e w5 ⟨rfl, hb5⟩
  have h5 : Below w1.heap.size w1 w5 ∧ Blk w5 gl 76 (sevenV (up7 o.st K now)) := ⟨below_trans h4.1 hb5 h4.1.size, h4.2.keep hb5⟩
  refine hKE _ _ (hTP' _ h5) ?_
  clear hKE hb5
  generalize mostE (toldE (up7 o.st K now) o.n) o.n = z at hU hpos ⊢
  obtain ⟨z1, z2⟩ := z
  go_wp2_with (first
    | (apply SeqP.skip; rfl; simp only [Act.put, List.setIfInBounds_toArray, List.set_cons_zero, List.set_cons_succ])
    | (apply SeqP.call; rfl; rfl; (intro w2 hw; have hw := hTP _ hw; ((have q3 := FC _ hw.1)); go_simp; exact ⟨rfl, rfl⟩); (intro w2 hw; have hw := hTP _ hw; ((have q3 := FC _ hw.1)); (first | fail)); simp only [Act.put, List.setIfInBounds_toArray, List.set_cons_zero, List.set_cons_succ])
    | (apply SeqP.pure; rfl; (intro w2 hw; have hw := hTP _ hw; ((have q3 := FC _ hw.1)); go_simp; with_reducible rfl); simp only [Act.put, List.setIfInBounds_toArray, List.set_cons_zero, List.set_cons_succ])
    | (apply SeqP.split; rfl; rfl; all_goals (intro hc; simp only [hc]; try simp only [beq_iff_eq, decide_eq_true_eq, beq_eq_false_iff_ne, decide_eq_false_iff_not, bne_iff_ne, ne_eq, Bool.not_eq_true', Bool.not_eq_false', Int.not_le, Int.not_lt, bne_eq_false_iff_eq, Bool.or_eq_true, Bool.and_eq_true, Bool.or_eq_false_iff] at hc)))
  apply SeqP.nil
  refine hKP _ _ (hTP' _ (h5)) ?_
  clear hKP hTP hTP'
  have HF := Lib.hid h5.1
  have hzp : 0 ≤ z1 := hpos
  clear h4 h5 HL
  by_cases hzm : z1 ≤ 1073741824
  · have hzm' : ¬ (1073741824 : Int) < z1 := by omega
    have hd : decide ((1073741824 : Int) < z1) = false := decide_eq_false hzm'
    cases z2 with
    | true =>
      have hv : Hid (untilO o now = z1 + 10) := Lib.hid (by rw [hU.out]; exact if_pos ⟨rfl, hzm⟩)
      clear hU
      go_wp2_with fail
      go_ret
      rw [hv.out]
      exact ⟨rfl, HF.out⟩
    | false =>
      have hv : Hid (untilO o now = 0) := Lib.hid (by rw [hU.out]; exact if_neg (fun h => by cases h.1))
      clear hU
      go_wp2_with fail
      go_ret
      rw [hv.out]
      exact ⟨rfl, HF.out⟩
  · have hd : decide ((1073741824 : Int) < z1) = true := decide_eq_true (by omega)
    have hzm' : (1073741824 : Int) < z1 := by omega
    have hv : Hid (untilO o now = 0) := Lib.hid (by rw [hU.out]; exact if_neg (fun h => hzm h.2))
    clear hU
    cases z2 with
    | true =>
      go_wp2_with fail
      go_ret
      rw [hv.out]
      exact ⟨rfl, HF.out⟩
    | false =>
      go_wp2_with fail
      go_ret
      rw [hv.out]
      exact ⟨rfl, HF.out⟩
end Go.Proofs.Ytdphfhenjndkkaa

set_option linter.unusedSimpArgs false
set_option linter.unusedVariables false
set_option maxRecDepth 100000
namespace Go.Proofs.Ytdphfhenjndkkaa
open Go Go.RowKit Go.Sq Go.Wd Go.Arch

theorem fine_nz {o : OwnS} (hF : FineO o) : (o.n == 0) = false := by rw [beq_eq_false_iff_ne]; rcases sites_cases hF.1 with e | e | e | e | e | e <;> omega
theorem oopen_any (g : Nat) (o : OwnS) (now : Int) (w : World) (hb : Blk w g 116 (ownv o)) (hF : FineO o) :
    Calls Try.prog 27 #[.pointer (some ⟨g, 0, none⟩), .int .i64 now] w fun e w' => e = .returned (.bool (openO o now)) ∧ Below w.heap.size w w' := by
  have hz := fine_nz hF
  have c3 : w.cell? ⟨g, 3, none⟩ = some (.int .i64 o.n) := hb.cell 3
  have c18 : w.cell? ⟨g, 18, none⟩ = some (.bool o.fz) := hb.cell 18
  have hu := until_any g o now w hb hF
  have HU := Lib.hid hu
  clear hu hb hF
  cases hfz : o.fz with
  | true =>
    rw [hfz] at c18
    have HO : Hid (openO o now = false) := Lib.hid (by unfold openO; rw [hfz]; rfl)
    clear hfz
    go_enter Try.func27, Try.ntmps27
    go_wp2_with fail
    refine (onone_any g o.n w c3).mono ?_
    rintro e w1 ⟨rfl, rfl⟩
    rw [hz]
    go_wp2_with fail
    go_ret
    rw [HO.out]
    exact ⟨rfl, Below.refl _ _⟩
  | false =>
    rw [hfz] at c18
    have HO : Hid (openO o now = decide (now < untilO o now)) := Lib.hid (by unfold openO; rw [hfz]; rfl)
    clear hfz
    go_enter Try.func27, Try.ntmps27
    go_wp2_with fail
    refine (onone_any g o.n w c3).mono ?_
    rintro e w1 ⟨rfl, rfl⟩
    rw [hz]
    go_wp2_with fail
    refine HU.out.mono ?_
    rintro e w2 ⟨rfl, hb2⟩
    generalize untilO o now = u at HO ⊢
    go_wp2_with fail
    go_ret
    rw [HO.out]
    exact ⟨ret_bool (by first | rfl | simp), hb2⟩
def targO (o : OwnS) : Int := if o.fz = true then o.target else 0
theorem otarget_any (g : Nat) (o : OwnS) (w : World) (hb : Blk w g 116 (ownv o)) (hF : FineO o) :
    Calls Try.prog 26 #[.pointer (some ⟨g, 0, none⟩)] w fun e w' => e = .returned (.tuple #[.int .i64 (targO o), .bool o.fz]) ∧ w' = w := by
  have hz := fine_nz hF
  have c3 : w.cell? ⟨g, 3, none⟩ = some (.int .i64 o.n) := hb.cell 3
  have c18 : w.cell? ⟨g, 18, none⟩ = some (.bool o.fz) := hb.cell 18
  have c19 : w.cell? ⟨g, 19, none⟩ = some (.int .i64 o.target) := hb.cell 19
  clear hb hF
  cases hfz : o.fz with
  | true =>
    rw [hfz] at c18
    have HT : Hid (targO o = o.target) := Lib.hid (by unfold targO; rw [hfz]; rfl)
    clear hfz
    go_enter Try.func26, Try.ntmps26
    go_wp2_with fail
    refine (onone_any g o.n w c3).mono ?_
    rintro e w1 ⟨rfl, rfl⟩
    rw [hz]
    go_wp2_with fail
    go_ret2
    rw [HT.out]
    exact ⟨rfl, rfl⟩
  | false =>
    rw [hfz] at c18
    have HT : Hid (targO o = 0) := Lib.hid (by unfold targO; rw [hfz]; rfl)
    clear hfz
    go_enter Try.func26, Try.ntmps26
    go_wp2_with fail
    refine (onone_any g o.n w c3).mono ?_
    rintro e w1 ⟨rfl, rfl⟩
    rw [hz]
    go_wp2_with fail
    go_ret2
    rw [HT.out]
    exact ⟨rfl, rfl⟩
/-- Freeze. -/
def frzOk (o : OwnS) (t : Int) : Prop := 0 ≤ t ∧ t < o.n ∧ t ≠ o.site ∧ o.fz = false
instance (o : OwnS) (t : Int) : Decidable (frzOk o t) := by unfold frzOk; infer_instance
def frzE (o : OwnS) (t : Int) : Int := if frzOk o t then 0 else 2
def frzS (o : OwnS) (t : Int) : OwnS := if frzOk o t then { o with fz := true, target := t } else o
set_option maxHeartbeats 2000000 in
theorem freeze_any (g : Nat) (o : OwnS) (t : Int) (w : World) (hb : Blk w g 116 (ownv o)) (hF : FineO o) :
    Calls Try.prog 25 #[.pointer (some ⟨g, 0, none⟩), .int .i64 t] w fun e w' => e = .returned (.int .i64 (frzE o t)) ∧ Blk w' g 116 (ownv (frzS o t)) ∧ w.grownBy w' (some g) := by
  have hz := fine_nz hF
  have c2 : w.cell? ⟨g, 2, none⟩ = some (.int .i64 o.site) := hb.cell 2
  have c3 : w.cell? ⟨g, 3, none⟩ = some (.int .i64 o.n) := hb.cell 3
  have c18 : w.cell? ⟨g, 18, none⟩ = some (.bool o.fz) := hb.cell 18
  have c19 : w.cell? ⟨g, 19, none⟩ = some (.int .i64 o.target) := hb.cell 19
  have fr := hb.frozen
  have HB := Lib.hid hb
  clear hb hF
  by_cases hok : frzOk o t
  case pos =>
    have HO := Lib.hid hok
    have HE : Hid (frzE o t = 0) := Lib.hid (if_pos hok)
    obtain ⟨g1, g2, g3, g4⟩ := hok
    rw [g4] at c18
    have h1 : ¬ t < 0 := by omega
    have h2 : ¬ o.n ≤ t := by omega
    have h3 : (t == o.site) = false := by simpa using g3
    clear g3 g4
    go_enter Try.func25, Try.ntmps25
    go_wp2_with fail
    refine (onone_any g o.n w c3).mono ?_
    rintro e w1 ⟨rfl, rfl⟩
    rw [hz]
    go_wp2_with fail
    go_ret
    rw [HE.out]
    refine ⟨rfl, ?_, ?_⟩
    · have := (HB.out.set 18 (.bool true)).set 19 (.int .i64 t)
      have e : ((ownv o).set 18 (.bool true)).set 19 (.int .i64 t) = ownv (frzS o t) := by unfold frzS; rw [if_pos HO.out]; rfl
      rw [e] at this
      exact this
    · (repeat (first | with_reducible apply only_drew | with_reducible refine only_setCell ?_ (by first | exact Or.inl rfl | (right; simp; done) | (right; simp; omega) | (right; omega)) _ | with_reducible refine only_alloc ?_ _ | with_reducible exact World.grownBy.refl _ _ | with_reducible assumption))
  case neg =>
    have HO := Lib.hid hok
    have HE : Hid (frzE o t = 2) := Lib.hid (if_neg hok)
    have hpost : Blk w g 116 (ownv (frzS o t)) := by unfold frzS; rw [if_neg hok]; exact HB.out
    have HP := Lib.hid hpost
    have hcases : t < 0 ∨ (¬ t < 0 ∧ o.n ≤ t) ∨ (¬ t < 0 ∧ ¬ o.n ≤ t ∧ (t == o.site) = true) ∨ (¬ t < 0 ∧ ¬ o.n ≤ t ∧ (t == o.site) = false ∧ o.fz = true) := by
      by_cases h1 : t < 0
      · exact .inl h1
      by_cases h2 : o.n ≤ t
      · exact .inr (.inl ⟨h1, h2⟩)
      by_cases h3 : t = o.site
      · exact .inr (.inr (.inl ⟨h1, h2, by simpa using h3⟩))
      · refine .inr (.inr (.inr ⟨h1, h2, by simpa using h3, ?_⟩))
        cases hf : o.fz with
        | true => rfl
        | false => exact absurd ⟨by omega, by omega, h3, hf⟩ hok
    clear hok hpost
    rcases hcases with h1 | ⟨h1, h2⟩ | ⟨h1, h2, h3⟩ | ⟨h1, h2, h3, h4⟩
    all_goals
      try rw [h4] at c18
      go_enter Try.func25, Try.ntmps25
      go_wp2_with fail
      refine (onone_any g o.n w c3).mono ?_
      rintro e w1 ⟨rfl, rfl⟩
      rw [hz]
      go_wp2_with fail
      go_ret
      rw [HE.out]
      exact ⟨rfl, HP.out, World.grownBy.refl _ _⟩
end Go.Proofs.Ytdphfhenjndkkaa

set_option linter.unusedSimpArgs false
set_option linter.unusedVariables false
set_option maxRecDepth 100000
namespace Go.Proofs.Ytdphfhenjndkkaa
open Go Go.RowKit Go.Sq Go.Wd Go.Arch

/-- Both blocks. -/
def MineW (w w' : World) (g : Nat) (o : OwnS) (x : MailV) : Prop := Below w.heap.size w w' ∧ Blk w' w.heap.size 43 (mailv x) ∧ Blk w' g 116 (ownv o)
theorem MineW.keep {w w' w'' : World} {g : Nat} {o : OwnS} {x : MailV} (h : MineW w w' g o x) (hb : Below w'.heap.size w' w'') : MineW w w'' g o x := ⟨below_trans h.1 hb h.1.size, h.2.1.keep hb, h.2.2.keep hb⟩
set_option maxHeartbeats 4000000 in
theorem mine_any (g : Nat) (o : OwnS) (x : MailV) (k : Int) (w : World) (hb : Blk w g 116 (ownv o)) (hF : FineO o) :
    Calls Try.prog 58 #[.pointer (some ⟨g, 0, none⟩), .agg (mailv x).toArray, .int .i64 k] w fun e w' => e = .returned (.bool (decide (mineO o x.m k))) ∧ Below w.heap.size w w' := by
  have hz := fine_nz hF
  have hw0 : Below w.heap.size w (w.alloc (.cells (mailv x).toArray 43)) := (Below.refl _ _).alloc (Nat.le_refl _) _
  have hA : MineW w (w.alloc (.cells (mailv x).toArray 43)).drew g o x := MineW.keep ⟨hw0, Blk.new w _ _, hb.keep hw0⟩ (Below.refl _ _).drew
  have HA := Lib.hid hA
  have lg := hb.lt
  have FC : ∀ w', MineW w w' g o x → (w'.cell? ⟨w.heap.size, 0, none⟩ = some (.int .i64 x.m.kind) ∧ w'.cell? ⟨w.heap.size, 1, none⟩ = some (.int .i64 x.m.from_) ∧ w'.cell? ⟨w.heap.size, 2, none⟩ = some (.int .i64 x.m.to) ∧ w'.cell? ⟨w.heap.size, 3, none⟩ = some (.int .i64 x.m.stream) ∧ w'.cell? ⟨w.heap.size, 4, none⟩ = some (.int .i64 x.m.epoch)) ∧
      (w'.cell? ⟨g, 0, none⟩ = some (.int .i64 o.stream) ∧ w'.cell? ⟨g, 1, none⟩ = some (.int .i64 o.epoch) ∧ w'.cell? ⟨g, 2, none⟩ = some (.int .i64 o.site) ∧ w'.cell? ⟨g, 3, none⟩ = some (.int .i64 o.n)) := fun w' h => ⟨⟨h.2.1.cell 0, h.2.1.cell 1, h.2.1.cell 2, h.2.1.cell 3, h.2.1.cell 4⟩, h.2.2.cell 0, h.2.2.cell 1, h.2.2.cell 2, h.2.2.cell 3⟩
  clear hw0 hA hb hF
  go_enter Try.func58, Try.ntmps58
  go_wp2_with fail
  refine wp_region_p ([(0, true), (1, true), (2, true), (3, true), (4, true), (5, true), (6, true), (7, true), (8, true), (9, true), (10, true), (11, true), (12, true), (13, true), (14, true), (15, true), (16, true), (17, true), (18, true), (19, true), (20, true), (21, true), (22, true), (23, true), (24, true), (25, true), (26, true), (27, true), (28, true), (29, true), (30, true), (31, true), (32, true), (33, true), (34, true), (35, true), (36, true), (37, true), (38, true), (39, true), (40, true), (41, true), (42, true), (43, true), (44, true), (45, true), (46, true), (47, true), (48, true), (49, true), (50, true), (51, true), (52, true), (53, true), (54, true), (55, true), (56, true), (57, true), (58, true), (59, true)]) (fun w' => MineW w w' g o x) (by kernel_rfl) rfl (by kernel_rfl) (by kernel_rfl) (HA.out) rfl ?_
  intro KP RP TP hKP hTP hTP'
  simp only [List.append_eq, List.cons_append, List.nil_append, pick, nth]
  have hzn : (!(o.n == 0)) = true := by rw [hz]; rfl
  go_wp2_with (first
    | (apply SeqP.skip; rfl; simp only [Act.put, List.setIfInBounds_toArray, List.set_cons_zero, List.set_cons_succ])
    | (apply SeqP.call; rfl; rfl; (intro w2 hw; have hw := hTP _ hw; ((obtain ⟨⟨q0, q1, q2, q3, q4⟩, r0, r1, r2, r3⟩ := FC _ hw)); go_simp; exact ⟨rfl, rfl⟩); (intro w2 hw; have hw := hTP _ hw; ((obtain ⟨⟨q0, q1, q2, q3, q4⟩, r0, r1, r2, r3⟩ := FC _ hw)); (first | (go_at_call 57; refine (onone_any g o.n _ (FC _ hw).2.2.2.2).mono ?_; rintro e w' ⟨rfl, rfl⟩; exact ⟨rfl, rfl⟩))); simp only [Act.put, List.setIfInBounds_toArray, List.set_cons_zero, List.set_cons_succ])
    | (apply SeqP.pure; rfl; (intro w2 hw; have hw := hTP _ hw; ((obtain ⟨⟨q0, q1, q2, q3, q4⟩, r0, r1, r2, r3⟩ := FC _ hw)); go_simp; with_reducible rfl); simp only [Act.put, List.setIfInBounds_toArray, List.set_cons_zero, List.set_cons_succ])
    | (apply SeqP.split; rfl; rfl; all_goals (intro hc; simp only [hc]; try simp only [beq_iff_eq, decide_eq_true_eq, beq_eq_false_iff_ne, decide_eq_false_iff_not, bne_iff_ne, ne_eq, Bool.not_eq_true', Bool.not_eq_false', Int.not_le, Int.not_lt, bne_eq_false_iff_eq, Bool.or_eq_true, Bool.and_eq_true, Bool.or_eq_false_iff] at hc)))
  all_goals (apply SeqP.nil; refine hKP _ _ (hTP' _ (HA.out)) ?_; clear hKP hTP hTP')
  all_goals first
    | (have hM : Hid (decide (mineO o x.m k) = false) := Lib.hid (decide_eq_false (by rintro ⟨a1, a2, a3, a4, a5, a6, a7⟩; first | contradiction | omega))
       go_wp2_with fail
       go_ret
       rw [hM.out]
       exact ⟨rfl, HA.out.1⟩)
    | (have hM : Hid (decide (mineO o x.m k) = (x.m.from_ != o.site)) := Lib.hid (by
         rw [Bool.eq_iff_iff, decide_eq_true_eq, bne_iff_ne]
         exact ⟨fun h => h.2.2.2.2.2.2, fun h => ⟨by assumption, by assumption, by assumption, by assumption, by assumption, by assumption, h⟩⟩)
       go_wp2_with fail
       go_ret
       rw [hM.out]
       exact ⟨ret_bool (by first | rfl | simp), HA.out.1⟩)

/-- What Ack leaves. -/
def AckPost (o : OwnS) (g : Nat) (m : MailS) (w : World) (e : Ending) (w' : World) : Prop :=
  e = .returned (.bool (decide (ackOk o m))) ∧ Blk w' g 116 (ownv (ackS o m)) ∧ Kept w w' (some g) none

set_option maxHeartbeats 8000000 in
theorem ack_any (g : Nat) (o : OwnS) (x : MailV) (w : World) (hb : Blk w g 116 (ownv o)) (hF : FineO o) :
    Calls Try.prog 28 #[.pointer (some ⟨g, 0, none⟩), .agg (mailv x).toArray] w fun e w' => AckPost o g x.m w e w' := by
  have hw0 : Below w.heap.size w (w.alloc (.cells (mailv x).toArray 43)) := (Below.refl _ _).alloc (Nat.le_refl _) _
  have hA : MineW w (w.alloc (.cells (mailv x).toArray 43)) g o x := ⟨hw0, Blk.new w _ _, hb.keep hw0⟩
  have HA := Lib.hid (And.intro hA hF)
  have lg := hb.lt
  clear hw0 hA hb hF
  have hno : ∀ w' : World, ¬ ackOk o x.m → MineW w w' g o x → AckPost o g x.m w (.returned (.bool false)) w' := fun w' h hM => by
    refine ⟨by rw [decide_eq_false h], ?_, Kept.ofBelow hM.1 _ _⟩
    unfold ackS
    rw [if_neg h]
    exact hM.2.2
  have HNO := Lib.hid hno
  clear hno
  go_enter Try.func28, Try.ntmps28
  go_wp2_with ((with_reducible refine at_list ?_); first | refine wpList_load_blk rfl 43 _ rfl _ rfl _ _ _ (HA.out.1.2.1) Try.underlying43 rfl mail_info ?_)
  refine (mine_any g o x 5 _ HA.out.1.2.2 HA.out.2).mono ?_
  rintro e w1 ⟨rfl, hb1⟩
  have H1 := Lib.hid (HA.out.1.keep hb1)
  have hF := HA.out.2
  have HF := Lib.hid hF
  clear hb1 HA hF
  have c7 : w1.cell? ⟨w.heap.size, 7, none⟩ = some (.int .i64 x.m.len) := H1.out.2.1.cell 7
  by_cases hm : mineO o x.m 5
  case neg =>
    have hd : decide (mineO o x.m 5) = false := decide_eq_false hm
    have HN : Hid (¬ ackOk o x.m) := Lib.hid (fun h => hm h.1)
    rw [hd]
    clear hm hd
    go_wp2_with fail
    go_ret
    exact HNO.out _ HN.out H1.out
  have hd : decide (mineO o x.m 5) = true := decide_eq_true hm
  have HM := Lib.hid hm
  rw [hd]
  clear hm hd
  by_cases hl : x.m.len < 0
  case pos =>
    have HN : Hid (¬ ackOk o x.m) := Lib.hid (fun h => by have := h.2; omega)
    go_wp2_with fail
    go_ret
    exact HNO.out _ HN.out H1.out
  have HOK : Hid (ackOk o x.m) := Lib.hid ⟨HM.out, by omega⟩
  clear HNO
  obtain ⟨K, hK⟩ := Int.eq_ofNat_of_zero_le HM.out.2.2.2.2.1
  have hK7 : K < 7 := by have := HM.out.2.2.2.2.2.1; have := sites_cases HF.out.1; omega
  have k0 : (0 : Int) ≤ (K : Int) := by omega
  have k7 : (K : Int) < 7 := by omega
  have hkn : x.m.from_.toNat = K := by omega
  have HK := Lib.hid (And.intro hK hkn)
  clear hK hkn
  go_wp2_with fail
  have hd1 := H1.out.keep (Below.refl _ _).drew
  have HD := Lib.hid hd1
  have lm := H1.out.2.1.lt
  have hne : w.heap.size ≠ g := by omega
  have FM : ∀ w', Blk w' w.heap.size 43 (mailv x) → w'.cell? ⟨w.heap.size, 1, none⟩ = some (.int .i64 (K : Int)) ∧ w'.cell? ⟨w.heap.size, 7, none⟩ = some (.int .i64 x.m.len) ∧ w'.cell? ⟨w.heap.size, 8, none⟩ = some (.int .i64 x.m.stamp) := fun w' h => ⟨by rw [← HK.out.1]; exact h.cell 1, h.cell 7, h.cell 8⟩
  clear c7 hd1
  refine wp_region_p ([(0, true), (1, true), (2, true), (3, true), (4, true), (5, true), (6, true), (7, true), (8, true), (10, true), (11, true), (13, true), (14, true), (9, false), (12, true), (15, true), (16, false)]) (fun w' => Blk w' w.heap.size 43 (mailv x)) (by kernel_rfl) rfl (by kernel_rfl) (by kernel_rfl) (HD.out.2.1) rfl ?_
  intro KP RP TP hKP hTP hTP'
  simp only [List.append_eq, List.cons_append, List.nil_append, pick, nth]
  generalize w1.drew = wq at *
  go_wp2_with (first
    | (apply SeqP.skip; rfl; simp only [Act.put, List.setIfInBounds_toArray, List.set_cons_zero, List.set_cons_succ])
    | (apply SeqP.call; rfl; rfl; (intro w2 hw; have hw := hTP _ hw; ((obtain ⟨q1, q7, q8⟩ := FM _ hw)); go_simp; exact ⟨rfl, rfl⟩); (intro w2 hw; have hw := hTP _ hw; ((obtain ⟨q1, q7, q8⟩ := FM _ hw)); (first | fail)); simp only [Act.put, List.setIfInBounds_toArray, List.set_cons_zero, List.set_cons_succ])
    | (apply SeqP.pure; rfl; (intro w2 hw; have hw := hTP _ hw; ((obtain ⟨q1, q7, q8⟩ := FM _ hw)); go_simp; with_reducible rfl); simp only [Act.put, List.setIfInBounds_toArray, List.set_cons_zero, List.set_cons_succ])
    | (apply SeqP.split; rfl; rfl; all_goals (intro hc; simp only [hc]; try simp only [beq_iff_eq, decide_eq_true_eq, beq_eq_false_iff_ne, decide_eq_false_iff_not, bne_iff_ne, ne_eq, Bool.not_eq_true', Bool.not_eq_false', Int.not_le, Int.not_lt, bne_eq_false_iff_eq, Bool.or_eq_true, Bool.and_eq_true, Bool.or_eq_false_iff] at hc)))
  have hck : wq.cell? ⟨g, 4 + K, none⟩ = some (.int .i64 (o.has K)) := by rw [HD.out.2.2.cell, ownv_has o hK7]
  apply SeqP.eff
  · rfl
  intro KE hKE
  go_wp2_with fail
  refine hKE _ _ (hTP' _ HD.out.2.1) ?_
  clear hKE KE
  have hfr : wq.frozen? ⟨g, 4 + K, none⟩ = false := HD.out.2.2.frozen _
  go_wp2_with (first
    | (apply SeqP.skip; rfl; simp only [Act.put, List.setIfInBounds_toArray, List.set_cons_zero, List.set_cons_succ])
    | (apply SeqP.call; rfl; rfl; (intro w2 hw; have hw := hTP _ hw; ((obtain ⟨q1, q7, q8⟩ := FM _ hw)); go_simp; exact ⟨rfl, rfl⟩); (intro w2 hw; have hw := hTP _ hw; ((obtain ⟨q1, q7, q8⟩ := FM _ hw)); (first | fail)); simp only [Act.put, List.setIfInBounds_toArray, List.set_cons_zero, List.set_cons_succ])
    | (apply SeqP.pure; rfl; (intro w2 hw; have hw := hTP _ hw; ((obtain ⟨q1, q7, q8⟩ := FM _ hw)); go_simp; with_reducible rfl); simp only [Act.put, List.setIfInBounds_toArray, List.set_cons_zero, List.set_cons_succ])
    | (apply SeqP.split; rfl; rfl; all_goals (intro hc; simp only [hc]; try simp only [beq_iff_eq, decide_eq_true_eq, beq_eq_false_iff_ne, decide_eq_false_iff_not, bne_iff_ne, ne_eq, Bool.not_eq_true', Bool.not_eq_false', Int.not_le, Int.not_lt, bne_eq_false_iff_eq, Bool.or_eq_true, Bool.and_eq_true, Bool.or_eq_false_iff] at hc)))
  apply SeqP.eff
  · rfl
  intro KE hKE
  go_wp2_with fail
  have B3 : Blk (wq.setCell ⟨g, 4 + K, none⟩ (.int .i64 (max (o.has K) x.m.len))) g 116 (ownv { o with has := up7 o.has K (max (o.has K) x.m.len) }) := by
    rw [← ownv_setHas o hK7]
    exact HD.out.2.2.set (4 + K) _
  have M3 : Blk (wq.setCell ⟨g, 4 + K, none⟩ (.int .i64 (max (o.has K) x.m.len))) w.heap.size 43 (mailv x) := HD.out.2.1.far (p := ⟨g, 4 + K, none⟩) hne _
  have K3 : Kept w (wq.setCell ⟨g, 4 + K, none⟩ (.int .i64 (max (o.has K) x.m.len))) (some g) none := (Kept.ofBelow HD.out.1 _ _).trans (Kept.ofGrown (only_setCell (World.grownBy.refl wq _) (.inl rfl) _))
  have HT := Lib.hid (And.intro B3 (And.intro M3 K3))
  refine hKE _ _ (hTP' _ M3) ?_
  clear hKE KE B3 M3 K3 hck
  apply SeqP.nil
  refine hKP _ _ (hTP' _ (HT.out.2.1)) ?_
  clear hKP hTP hTP'
  generalize (wq.setCell ⟨g, 4 + K, none⟩ (.int .i64 (max (o.has K) x.m.len))) = w3 at *
  go_wp2_with fail
  have hdd : Below w3.heap.size w3 w3.drew := (Below.refl _ _).drew
  have HT2 := Lib.hid (show Blk w3.drew g 116 (ownv { o with has := up7 o.has K (max (o.has K) x.m.len) }) ∧ Blk w3.drew w.heap.size 43 (mailv x) ∧ Kept w w3.drew (some g) none from ⟨HT.out.1.drew, HT.out.2.1.drew, HT.out.2.2.trans (Kept.ofBelow hdd _ _)⟩)
  clear HT hdd
  refine wp_region_p ([(0, true), (1, true), (2, true), (3, true), (4, true), (5, true), (6, true), (7, true), (8, true), (10, true), (11, true), (13, true), (14, true), (9, false), (12, true), (15, true), (16, false)]) (fun w' => Blk w' w.heap.size 43 (mailv x)) (by kernel_rfl) rfl (by kernel_rfl) (by kernel_rfl) (HT2.out.2.1) rfl ?_
  intro KP RP TP hKP hTP hTP'
  simp only [List.append_eq, List.cons_append, List.nil_append, pick, nth]
  generalize w3.drew = wr at *
  go_wp2_with (first
    | (apply SeqP.skip; rfl; simp only [Act.put, List.setIfInBounds_toArray, List.set_cons_zero, List.set_cons_succ])
    | (apply SeqP.call; rfl; rfl; (intro w2 hw; have hw := hTP _ hw; ((obtain ⟨q1, q7, q8⟩ := FM _ hw)); go_simp; exact ⟨rfl, rfl⟩); (intro w2 hw; have hw := hTP _ hw; ((obtain ⟨q1, q7, q8⟩ := FM _ hw)); (first | fail)); simp only [Act.put, List.setIfInBounds_toArray, List.set_cons_zero, List.set_cons_succ])
    | (apply SeqP.pure; rfl; (intro w2 hw; have hw := hTP _ hw; ((obtain ⟨q1, q7, q8⟩ := FM _ hw)); go_simp; with_reducible rfl); simp only [Act.put, List.setIfInBounds_toArray, List.set_cons_zero, List.set_cons_succ])
    | (apply SeqP.split; rfl; rfl; all_goals (intro hc; simp only [hc]; try simp only [beq_iff_eq, decide_eq_true_eq, beq_eq_false_iff_ne, decide_eq_false_iff_not, bne_iff_ne, ne_eq, Bool.not_eq_true', Bool.not_eq_false', Int.not_le, Int.not_lt, bne_eq_false_iff_eq, Bool.or_eq_true, Bool.and_eq_true, Bool.or_eq_false_iff] at hc)))
  have hcs : wr.cell? ⟨g, 11 + K, none⟩ = some (.int .i64 (o.st K)) := by rw [HT2.out.1.cell, ownv_st _ hK7]
  have hfs : wr.frozen? ⟨g, 11 + K, none⟩ = false := HT2.out.1.frozen _
  apply SeqP.eff
  · rfl
  intro KE hKE
  go_wp2_with fail
  refine hKE _ _ (hTP' _ HT2.out.2.1) ?_
  clear hKE KE
  go_wp2_with (first
    | (apply SeqP.skip; rfl; simp only [Act.put, List.setIfInBounds_toArray, List.set_cons_zero, List.set_cons_succ])
    | (apply SeqP.call; rfl; rfl; (intro w2 hw; have hw := hTP _ hw; ((obtain ⟨q1, q7, q8⟩ := FM _ hw)); go_simp; exact ⟨rfl, rfl⟩); (intro w2 hw; have hw := hTP _ hw; ((obtain ⟨q1, q7, q8⟩ := FM _ hw)); (first | fail)); simp only [Act.put, List.setIfInBounds_toArray, List.set_cons_zero, List.set_cons_succ])
    | (apply SeqP.pure; rfl; (intro w2 hw; have hw := hTP _ hw; ((obtain ⟨q1, q7, q8⟩ := FM _ hw)); go_simp; with_reducible rfl); simp only [Act.put, List.setIfInBounds_toArray, List.set_cons_zero, List.set_cons_succ])
    | (apply SeqP.split; rfl; rfl; all_goals (intro hc; simp only [hc]; try simp only [beq_iff_eq, decide_eq_true_eq, beq_eq_false_iff_ne, decide_eq_false_iff_not, bne_iff_ne, ne_eq, Bool.not_eq_true', Bool.not_eq_false', Int.not_le, Int.not_lt, bne_eq_false_iff_eq, Bool.or_eq_true, Bool.and_eq_true, Bool.or_eq_false_iff] at hc)))
  apply SeqP.eff
  · rfl
  intro KE hKE
  go_wp2_with fail
  have B4 : Blk (wr.setCell ⟨g, 11 + K, none⟩ (.int .i64 (max (o.st K) x.m.stamp))) g 116 (ownv { o with has := up7 o.has K (max (o.has K) x.m.len), st := up7 o.st K (max (o.st K) x.m.stamp) }) := by
    have := ownv_setSt { o with has := up7 o.has K (max (o.has K) x.m.len) } hK7 (max (o.st K) x.m.stamp)
    rw [← this]
    exact HT2.out.1.set (11 + K) _
  have M4 : Blk (wr.setCell ⟨g, 11 + K, none⟩ (.int .i64 (max (o.st K) x.m.stamp))) w.heap.size 43 (mailv x) := HT2.out.2.1.far (p := ⟨g, 11 + K, none⟩) hne _
  have K4 : Kept w (wr.setCell ⟨g, 11 + K, none⟩ (.int .i64 (max (o.st K) x.m.stamp))) (some g) none := HT2.out.2.2.trans (Kept.ofGrown (only_setCell (World.grownBy.refl wr _) (.inl rfl) _))
  have HQ := Lib.hid (And.intro B4 K4)
  refine hKE _ _ (hTP' _ M4) ?_
  clear hKE KE hcs hfs
  apply SeqP.nil
  refine hKP _ _ (hTP' _ (M4)) ?_
  clear hKP hTP hTP'
  clear M4 B4 K4
  go_wp2_with fail
  go_ret
  refine ⟨ret_bool (by rw [decide_eq_true HOK.out]), ?_, HQ.out.2⟩
  unfold ackS
  rw [if_pos HOK.out, HK.out.2]
  exact HQ.out.1
end Go.Proofs.Ytdphfhenjndkkaa

set_option linter.unusedSimpArgs false
set_option linter.unusedVariables false
set_option maxRecDepth 100000
namespace Go.Proofs.Ytdphfhenjndkkaa
open Go Go.RowKit Go.Sq Go.Wd Go.Arch

theorem max_swap (a b c : Int) : max (max a b) c = max (max a c) b := by omega
theorem max_twice (a b : Int) : max (max a b) b = max a b := by omega
theorem up7_swap (f : Nat → Int) (i j : Nat) (a b : Int) :
    up7 (up7 f i (max (f i) a)) j (max (up7 f i (max (f i) a) j) b) = up7 (up7 f j (max (f j) b)) i (max (up7 f j (max (f j) b) i) a) := by
  funext k
  unfold up7
  by_cases hij : i = j
  · subst hij
    by_cases hk : k = i
    · rw [if_pos hk, if_pos hk, if_pos rfl, if_pos rfl, max_swap]
    · simp [hk]
  · have hji : ¬ j = i := fun e => hij e.symm
    by_cases hk : k = i
    · subst hk
      simp [hij]
    · by_cases hk2 : k = j
      · subst hk2
        simp [hji]
      · simp [hk, hk2]
theorem up7_twice (f : Nat → Int) (i : Nat) (a : Int) : up7 (up7 f i (max (f i) a)) i (max (up7 f i (max (f i) a) i) a) = up7 f i (max (f i) a) := by
  funext k
  unfold up7
  by_cases hk : k = i <;> simp [hk, max_twice]
theorem ackOk_ack (o : OwnS) (a b : MailS) : ackOk (ackS o a) b ↔ ackOk o b := by
  unfold ackS
  split <;> exact Iff.rfl
theorem ackS_no {o : OwnS} {a : MailS} (h : ¬ ackOk o a) : ackS o a = o := if_neg h
theorem ackS_comm (o : OwnS) (a b : MailS) : ackS (ackS o a) b = ackS (ackS o b) a := by
  by_cases ha : ackOk o a
  case neg => rw [ackS_no ha, ackS_no (fun h => ha ((ackOk_ack o b a).1 h))]
  by_cases hb : ackOk o b
  case neg => rw [ackS_no hb, ackS_no (fun h => hb ((ackOk_ack o a b).1 h))]
  have ea := (ackOk_ack o b a).2 ha
  have eb := (ackOk_ack o a b).2 hb
  rw [show ackS (ackS o a) b = { ackS o a with has := up7 (ackS o a).has b.from_.toNat (max ((ackS o a).has b.from_.toNat) b.len), st := up7 (ackS o a).st b.from_.toNat (max ((ackS o a).st b.from_.toNat) b.stamp) } from if_pos eb,
    show ackS (ackS o b) a = { ackS o b with has := up7 (ackS o b).has a.from_.toNat (max ((ackS o b).has a.from_.toNat) a.len), st := up7 (ackS o b).st a.from_.toNat (max ((ackS o b).st a.from_.toNat) a.stamp) } from if_pos ea]
  rw [show ackS o a = { o with has := up7 o.has a.from_.toNat (max (o.has a.from_.toNat) a.len), st := up7 o.st a.from_.toNat (max (o.st a.from_.toNat) a.stamp) } from if_pos ha,
    show ackS o b = { o with has := up7 o.has b.from_.toNat (max (o.has b.from_.toNat) b.len), st := up7 o.st b.from_.toNat (max (o.st b.from_.toNat) b.stamp) } from if_pos hb]
  show OwnS.mk _ _ _ _ _ _ _ _ = OwnS.mk _ _ _ _ _ _ _ _
  rw [up7_swap o.has, up7_swap o.st]
theorem ackS_twice (o : OwnS) (a : MailS) : ackS (ackS o a) a = ackS o a := by
  by_cases ha : ackOk o a
  case neg => rw [ackS_no ha, ackS_no ha]
  have ea := (ackOk_ack o a a).2 ha
  rw [show ackS (ackS o a) a = { ackS o a with has := up7 (ackS o a).has a.from_.toNat (max ((ackS o a).has a.from_.toNat) a.len), st := up7 (ackS o a).st a.from_.toNat (max ((ackS o a).st a.from_.toNat) a.stamp) } from if_pos ea]
  rw [show ackS o a = { o with has := up7 o.has a.from_.toNat (max (o.has a.from_.toNat) a.len), st := up7 o.st a.from_.toNat (max (o.st a.from_.toNat) a.stamp) } from if_pos ha]
  show OwnS.mk _ _ _ _ _ _ _ _ = OwnS.mk _ _ _ _ _ _ _ _
  rw [up7_twice o.has, up7_twice o.st]
def acksS (o : OwnS) (l : List MailS) : OwnS := l.foldl ackS o
theorem acksS_front (l : List MailS) (o : OwnS) (a : MailS) : acksS (ackS o a) l = ackS (acksS o l) a := by
  induction l generalizing o with
  | nil => rfl
  | cons b l ih =>
    show acksS (ackS (ackS o a) b) l = ackS (acksS (ackS o b) l) a
    rw [ackS_comm, ih]
theorem acksS_rev (l : List MailS) (o : OwnS) : acksS o l.reverse = acksS o l := by
  induction l generalizing o with
  | nil => rfl
  | cons a l ih =>
    rw [List.reverse_cons]
    show (l.reverse ++ [a]).foldl ackS o = acksS (ackS o a) l
    rw [List.foldl_append, acksS_front, ← ih]
    rfl
theorem acksS_take {l : List MailS} {j : Nat} {m : MailS} (o : OwnS) (h : l[j]? = some m) : acksS o (l.take (j + 1)) = ackS (acksS o (l.take j)) m := by
  unfold acksS
  rw [List.take_add_one, h]
  show List.foldl _ _ (l.take j ++ [m]) = _
  rw [List.foldl_append]
  rfl
theorem fine_acks {o : OwnS} (l : List MailS) (h : FineO o) : FineO (acksS o l) := by
  induction l generalizing o with
  | nil => exact h
  | cons a l ih => exact ih (by unfold ackS; split <;> exact h)
end Go.Proofs.Ytdphfhenjndkkaa

set_option linter.unusedSimpArgs false
set_option linter.unusedVariables false
set_option maxRecDepth 100000
namespace Go.Proofs.Ytdphfhenjndkkaa
open Go Go.RowKit Go.Sq Go.Wd Go.Arch

def sureS (o : OwnS) (l : Int) : OwnS := { o with has := up7 o.has o.site.toNat (max (o.has o.site.toNat) l) }
theorem fine_sure {o : OwnS} (l : Int) (h : FineO o) : FineO (sureS o l) := h

set_option maxHeartbeats 4000000 in
theorem sure_any (g : Nat) (o : OwnS) (l : Int) (w : World) (hb : Blk w g 116 (ownv o)) (hF : FineO o) :
    Calls Try.prog 53 #[.pointer (some ⟨g, 0, none⟩), .int .i64 l] w fun e w' => e = .returned (.tuple #[]) ∧ Blk w' g 116 (ownv (sureS o l)) ∧ Kept w w' (some g) none := by
  have hz := fine_nz hF
  have c3 : w.cell? ⟨g, 3, none⟩ = some (.int .i64 o.n) := hb.cell 3
  obtain ⟨hn, hs0, hsn⟩ := hF
  obtain ⟨K, hK⟩ := Int.eq_ofNat_of_zero_le hs0
  have hK7 : K < 7 := by have := sites_cases hn; omega
  have k0 : (0 : Int) ≤ (K : Int) := by omega
  have k7 : (K : Int) < 7 := by omega
  have hkn : o.site.toNat = K := by omega
  have HK := Lib.hid (And.intro hK hkn)
  have HB := Lib.hid hb
  clear hb hK hkn hn hs0 hsn
  go_enter Try.func53, Try.ntmps53
  go_wp2_with fail
  refine (onone_any g o.n w c3).mono ?_
  rintro e w1 ⟨rfl, rfl⟩
  rw [hz]
  go_wp2_with fail
  have HD := Lib.hid HB.out.drew
  have c2 : w1.drew.cell? ⟨g, 2, none⟩ = some (.int .i64 (K : Int)) := by rw [← HK.out.1]; exact HD.out.cell 2
  have hd1 : Below w1.heap.size w1 w1.drew := (Below.refl _ _).drew
  have HH := Lib.hid hd1
  clear hd1 c3
  refine wp_region_p ([(0, true), (1, true), (2, true), (3, true), (4, true), (5, true), (6, true), (7, true), (8, true), (9, true), (10, true), (11, true), (12, true), (14, true), (16, true), (17, true), (13, false), (15, true), (18, true), (19, false)]) (fun w' => w'.cell? ⟨g, 2, none⟩ = some (.int .i64 (K : Int))) (by kernel_rfl) rfl (by kernel_rfl) (by kernel_rfl) (c2) rfl ?_
  intro KP RP TP hKP hTP hTP'
  simp only [List.append_eq, List.cons_append, List.nil_append, pick, nth]
  generalize w1.drew = wq at *
  go_wp2_with (first
    | (apply SeqP.skip; rfl; simp only [Act.put, List.setIfInBounds_toArray, List.set_cons_zero, List.set_cons_succ])
    | (apply SeqP.call; rfl; rfl; (intro w2 hw; have hw := hTP _ hw; (skip); go_simp; exact ⟨rfl, rfl⟩); (intro w2 hw; have hw := hTP _ hw; (skip); (first | fail)); simp only [Act.put, List.setIfInBounds_toArray, List.set_cons_zero, List.set_cons_succ])
    | (apply SeqP.pure; rfl; (intro w2 hw; have hw := hTP _ hw; (skip); go_simp; with_reducible rfl); simp only [Act.put, List.setIfInBounds_toArray, List.set_cons_zero, List.set_cons_succ])
    | (apply SeqP.split; rfl; rfl; all_goals (intro hc; simp only [hc]; try simp only [beq_iff_eq, decide_eq_true_eq, beq_eq_false_iff_ne, decide_eq_false_iff_not, bne_iff_ne, ne_eq, Bool.not_eq_true', Bool.not_eq_false', Int.not_le, Int.not_lt, bne_eq_false_iff_eq, Bool.or_eq_true, Bool.and_eq_true, Bool.or_eq_false_iff] at hc)))
  have hck : wq.cell? ⟨g, 4 + K, none⟩ = some (.int .i64 (o.has K)) := by rw [HD.out.cell, ownv_has o hK7]
  apply SeqP.eff
  · rfl
  intro KE hKE
  go_wp2_with fail
  refine hKE _ _ (hTP' _ c2) ?_
  clear hKE KE
  have hfr : wq.frozen? ⟨g, 4 + K, none⟩ = false := HD.out.frozen _
  go_wp2_with (first
    | (apply SeqP.skip; rfl; simp only [Act.put, List.setIfInBounds_toArray, List.set_cons_zero, List.set_cons_succ])
    | (apply SeqP.call; rfl; rfl; (intro w2 hw; have hw := hTP _ hw; (skip); go_simp; exact ⟨rfl, rfl⟩); (intro w2 hw; have hw := hTP _ hw; (skip); (first | fail)); simp only [Act.put, List.setIfInBounds_toArray, List.set_cons_zero, List.set_cons_succ])
    | (apply SeqP.pure; rfl; (intro w2 hw; have hw := hTP _ hw; (skip); go_simp; with_reducible rfl); simp only [Act.put, List.setIfInBounds_toArray, List.set_cons_zero, List.set_cons_succ])
    | (apply SeqP.split; rfl; rfl; all_goals (intro hc; simp only [hc]; try simp only [beq_iff_eq, decide_eq_true_eq, beq_eq_false_iff_ne, decide_eq_false_iff_not, bne_iff_ne, ne_eq, Bool.not_eq_true', Bool.not_eq_false', Int.not_le, Int.not_lt, bne_eq_false_iff_eq, Bool.or_eq_true, Bool.and_eq_true, Bool.or_eq_false_iff] at hc)))
  apply SeqP.eff
  · rfl
  intro KE hKE
  go_wp2_with fail
  have B3 : Blk (wq.setCell ⟨g, 4 + K, none⟩ (.int .i64 (max (o.has K) l))) g 116 (ownv { o with has := up7 o.has K (max (o.has K) l) }) := by
    rw [← ownv_setHas o hK7]
    exact HD.out.set (4 + K) _
  have K3 : Kept w1 (wq.setCell ⟨g, 4 + K, none⟩ (.int .i64 (max (o.has K) l))) (some g) none := (Kept.ofBelow HH.out _ _).trans (Kept.ofGrown (only_setCell (World.grownBy.refl wq _) (.inl rfl) _))
  have HT := Lib.hid (And.intro B3 K3)
  have c2' : (wq.setCell ⟨g, 4 + K, none⟩ (.int .i64 (max (o.has K) l))).cell? ⟨g, 2, none⟩ = some (.int .i64 (K : Int)) := by rw [← HK.out.1]; exact B3.cell 2
  refine hKE _ _ (hTP' _ c2') ?_
  clear hKE KE B3 K3 hck
  apply SeqP.nil
  refine hKP _ _ (hTP' _ (c2')) ?_
  clear hKP hTP hTP'
  go_wp2_with fail
  refine bodyPost_end (results_none rfl _ _ _) rfl ?_
  refine ⟨rfl, ?_, HT.out.2⟩
  unfold sureS
  rw [HK.out.2]
  exact HT.out.1
end Go.Proofs.Ytdphfhenjndkkaa
