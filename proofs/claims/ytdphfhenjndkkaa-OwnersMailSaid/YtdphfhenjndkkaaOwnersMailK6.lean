/-
  The walk over the document's Ack of an owner.
  The walk over chapter 20's 'lays', where the answer is yes.
  The walk over the statement OwnersMail.
  A slice within a struct that comes in.
  Registers and records that come in.
  Structs of numbers that come in, of any number of fields.
  Slices of structs that come in, whatever struct.
  Mail that comes in, and what a ballot begins with.
  Two slices of bytes that come in as an array.
  What an owner begins with, and mail, as they come in.
-/
import Derived.Test.YtdphfhenjndkkaaOwnersMailK1
import Derived.Test.YtdphfhenjndkkaaOwnersMailK2
import Derived.Test.YtdphfhenjndkkaaOwnersMailK3
import Derived.Test.YtdphfhenjndkkaaOwnersMailK4
import Derived.Test.YtdphfhenjndkkaaOwnersMailK5
set_option linter.unusedSimpArgs false
set_option linter.unusedVariables false
set_option maxRecDepth 100000
namespace Go.Proofs.Ytdphfhenjndkkaa
open Go Go.RowKit Go.Sq Go.Wd Go.Arch

/-- Both blocks. -/
def RMineW (w w' : World) (g : Nat) (o : OwnS) (x : MailV) : Prop := Below w.heap.size w w' ∧ Blk w' w.heap.size 43 (mailv x) ∧ Blk w' g 78 (ownv o)
theorem RMineW.keep {w w' w'' : World} {g : Nat} {o : OwnS} {x : MailV} (h : RMineW w w' g o x) (hb : Below w'.heap.size w' w'') : RMineW w w'' g o x := ⟨below_trans h.1 hb h.1.size, h.2.1.keep hb, h.2.2.keep hb⟩
def RAckPost (o : OwnS) (g : Nat) (m : MailS) (w : World) (e : Ending) (w' : World) : Prop :=
  e = .returned (.bool (decide (ackOk o m))) ∧ Blk w' g 78 (ownv (ackS o m)) ∧ Kept w w' (some g) none

set_option maxHeartbeats 8000000 in
theorem rack_any (g : Nat) (o : OwnS) (x : MailV) (w : World) (hb : Blk w g 78 (ownv o)) (hF : FineO o) :
    Calls Try.prog 31 #[.pointer (some ⟨g, 0, none⟩), .agg (mailv x).toArray] w fun e w' => RAckPost o g x.m w e w' := by
  have hw0 : Below w.heap.size w (w.alloc (.cells (mailv x).toArray 43)) := (Below.refl _ _).alloc (Nat.le_refl _) _
  have hA : RMineW w (w.alloc (.cells (mailv x).toArray 43)).drew g o x := RMineW.keep ⟨hw0, Blk.new w _ _, hb.keep hw0⟩ (Below.refl _ _).drew
  have HA := Lib.hid hA
  have HF := Lib.hid hF
  have lg := hb.lt
  have FC : ∀ w', RMineW w w' g o x → (w'.cell? ⟨w.heap.size, 0, none⟩ = some (.int .i64 x.m.kind) ∧ w'.cell? ⟨w.heap.size, 1, none⟩ = some (.int .i64 x.m.from_) ∧ w'.cell? ⟨w.heap.size, 2, none⟩ = some (.int .i64 x.m.to) ∧ w'.cell? ⟨w.heap.size, 3, none⟩ = some (.int .i64 x.m.stream) ∧ w'.cell? ⟨w.heap.size, 4, none⟩ = some (.int .i64 x.m.epoch) ∧ w'.cell? ⟨w.heap.size, 7, none⟩ = some (.int .i64 x.m.len)) ∧
      (w'.cell? ⟨g, 0, none⟩ = some (.int .i64 o.stream) ∧ w'.cell? ⟨g, 1, none⟩ = some (.int .i64 o.epoch) ∧ w'.cell? ⟨g, 2, none⟩ = some (.int .i64 o.site) ∧ w'.cell? ⟨g, 3, none⟩ = some (.int .i64 o.n)) := fun w' h => ⟨⟨h.2.1.cell 0, h.2.1.cell 1, h.2.1.cell 2, h.2.1.cell 3, h.2.1.cell 4, h.2.1.cell 7⟩, h.2.2.cell 0, h.2.2.cell 1, h.2.2.cell 2, h.2.2.cell 3⟩
  clear hw0 hA hb hF
  have hno : ∀ w' : World, ¬ ackOk o x.m → RMineW w w' g o x → RAckPost o g x.m w (.returned (.bool false)) w' := fun w' h hM => by
    refine ⟨by rw [decide_eq_false h], ?_, Kept.ofBelow hM.1 _ _⟩
    unfold ackS
    rw [if_neg h]
    exact hM.2.2
  have HNO := Lib.hid hno
  clear hno
  go_enter Try.func31, Try.ntmps31
  go_wp2_with fail
  refine wp_region_p ([(0, true), (1, true), (2, true), (3, true), (4, true), (5, true), (6, true), (7, true), (8, true), (9, true), (10, true), (11, true), (12, true), (13, true), (14, true), (15, true), (16, true), (17, true), (18, true), (19, true), (20, true), (21, true), (22, true), (23, true), (24, true), (25, true), (26, true), (27, true), (28, true), (29, true), (30, true), (31, true), (32, true), (33, true), (34, true), (35, true), (36, true), (37, true), (38, true), (39, true), (40, true), (41, true), (42, true), (43, true), (44, true), (45, true), (46, true), (47, true), (48, true), (49, true), (50, true), (51, true), (52, true), (53, true), (54, true), (55, true), (56, true), (57, true)]) (fun w' => RMineW w w' g o x) (by kernel_rfl) rfl (by kernel_rfl) (by kernel_rfl) (HA.out) rfl ?_
  intro KP RP TP hKP hTP hTP'
  simp only [List.append_eq, List.cons_append, List.nil_append, pick, nth]
  go_wp2_with (first
    | (apply SeqP.skip; rfl; simp only [Act.put, List.setIfInBounds_toArray, List.set_cons_zero, List.set_cons_succ])
    | (apply SeqP.call; rfl; rfl; (intro w2 hw; have hw := hTP _ hw; ((obtain ⟨⟨q0, q1, q2, q3, q4, q7⟩, r0, r1, r2, r3⟩ := FC _ hw)); go_simp; exact ⟨rfl, rfl⟩); (intro w2 hw; have hw := hTP _ hw; ((obtain ⟨⟨q0, q1, q2, q3, q4, q7⟩, r0, r1, r2, r3⟩ := FC _ hw)); (first | fail)); simp only [Act.put, List.setIfInBounds_toArray, List.set_cons_zero, List.set_cons_succ])
    | (apply SeqP.pure; rfl; (intro w2 hw; have hw := hTP _ hw; ((obtain ⟨⟨q0, q1, q2, q3, q4, q7⟩, r0, r1, r2, r3⟩ := FC _ hw)); go_simp; with_reducible rfl); simp only [Act.put, List.setIfInBounds_toArray, List.set_cons_zero, List.set_cons_succ])
    | (apply SeqP.split; rfl; rfl; all_goals (intro hc; simp only [hc]; try simp only [beq_iff_eq, decide_eq_true_eq, beq_eq_false_iff_ne, decide_eq_false_iff_not, bne_iff_ne, ne_eq, Bool.not_eq_true', Bool.not_eq_false', Int.not_le, Int.not_lt, bne_eq_false_iff_eq, Bool.or_eq_true, Bool.and_eq_true, Bool.or_eq_false_iff] at hc)))
  all_goals (apply SeqP.nil; refine hKP _ _ (hTP' _ (HA.out)) ?_; clear hKP hTP hTP')
  all_goals first
    | (have hM : Hid (¬ ackOk o x.m) := Lib.hid (by rintro ⟨⟨a1, a2, a3, a4, a5, a6, a7⟩, a8⟩; first | contradiction | omega)
       go_wp2_with fail
       go_ret
       exact HNO.out _ hM.out HA.out)
    | skip
  by_cases hl : x.m.len < 0
  · have HN : Hid (¬ ackOk o x.m) := Lib.hid (fun h => by have := h.2; omega)
    go_wp2_with fail
    go_ret
    exact HNO.out _ HN.out HA.out
  rename_i k1 k2 k3 k4 k5 k6
  have HOK : Hid (ackOk o x.m) := Lib.hid ⟨⟨k1, k3, k4, k2, k5, k6, hc⟩, by omega⟩
  have HM := Lib.hid HOK.out.1
  clear HNO k1 k2 k3 k4 k5 k6 hc
  refine abs_at (fun W => RMineW w W g o x) HA.out ?_
  intro w1 h1
  have H1 := Lib.hid h1
  clear h1 HA FC
  obtain ⟨K, hK⟩ := Int.eq_ofNat_of_zero_le HM.out.2.2.2.2.1
  have hK7 : K < 7 := by have := HM.out.2.2.2.2.2.1; have := sites_cases HF.out.1; omega
  have k0 : (0 : Int) ≤ (K : Int) := by omega
  have k7 : (K : Int) < 7 := by omega
  have hkn : x.m.from_.toNat = K := by omega
  have HK := Lib.hid (And.intro hK hkn)
  clear hK hkn
  go_wp2_with fail
  have hd1 := H1.out.keep (Below.refl _ _).drew
  have HD := Lib.hid hd1
  have lm := H1.out.2.1.lt
  have hne : w.heap.size ≠ g := by omega
  have FM : ∀ w', Blk w' w.heap.size 43 (mailv x) → w'.cell? ⟨w.heap.size, 1, none⟩ = some (.int .i64 (K : Int)) ∧ w'.cell? ⟨w.heap.size, 7, none⟩ = some (.int .i64 x.m.len) ∧ w'.cell? ⟨w.heap.size, 8, none⟩ = some (.int .i64 x.m.stamp) := fun w' h => ⟨by rw [← HK.out.1]; exact h.cell 1, h.cell 7, h.cell 8⟩
  clear hd1
  refine wp_region_p ([(0, true), (1, true), (2, true), (3, true), (4, true), (5, true), (6, true), (7, true), (8, true), (10, true), (11, true), (13, true), (14, true), (9, false), (12, true), (15, true), (16, false)]) (fun w' => Blk w' w.heap.size 43 (mailv x)) (by kernel_rfl) rfl (by kernel_rfl) (by kernel_rfl) (HD.out.2.1) rfl ?_
  intro KP RP TP hKP hTP hTP'
  simp only [List.append_eq, List.cons_append, List.nil_append, pick, nth]
  generalize w1.drew = wq at *
  go_wp2_with (first
    | (apply SeqP.skip; rfl; simp only [Act.put, List.setIfInBounds_toArray, List.set_cons_zero, List.set_cons_succ])
    | (apply SeqP.call; rfl; rfl; (intro w2 hw; have hw := hTP _ hw; ((obtain ⟨q1, q7, q8⟩ := FM _ hw)); go_simp; exact ⟨rfl, rfl⟩); (intro w2 hw; have hw := hTP _ hw; ((obtain ⟨q1, q7, q8⟩ := FM _ hw)); (first | fail)); simp only [Act.put, List.setIfInBounds_toArray, List.set_cons_zero, List.set_cons_succ])
    | (apply SeqP.pure; rfl; (intro w2 hw; have hw := hTP _ hw; ((obtain ⟨q1, q7, q8⟩ := FM _ hw)); go_simp; with_reducible rfl); simp only [Act.put, List.setIfInBounds_toArray, List.set_cons_zero, List.set_cons_succ])
    | (apply SeqP.split; rfl; rfl; all_goals (intro hc; simp only [hc]; try simp only [beq_iff_eq, decide_eq_true_eq, beq_eq_false_iff_ne, decide_eq_false_iff_not, bne_iff_ne, ne_eq, Bool.not_eq_true', Bool.not_eq_false', Int.not_le, Int.not_lt, bne_eq_false_iff_eq, Bool.or_eq_true, Bool.and_eq_true, Bool.or_eq_false_iff] at hc)))
  have hck : wq.cell? ⟨g, 4 + K, none⟩ = some (.int .i64 (o.has K)) := by rw [HD.out.2.2.cell, ownv_has o hK7]
  apply SeqP.eff
  · rfl
  intro KE hKE
  go_wp2_with fail
  refine hKE _ _ (hTP' _ HD.out.2.1) ?_
  clear hKE KE
  have hfr : wq.frozen? ⟨g, 4 + K, none⟩ = false := HD.out.2.2.frozen _
  go_wp2_with (first
    | (apply SeqP.skip; rfl; simp only [Act.put, List.setIfInBounds_toArray, List.set_cons_zero, List.set_cons_succ])
    | (apply SeqP.call; rfl; rfl; (intro w2 hw; have hw := hTP _ hw; ((obtain ⟨q1, q7, q8⟩ := FM _ hw)); go_simp; exact ⟨rfl, rfl⟩); (intro w2 hw; have hw := hTP _ hw; ((obtain ⟨q1, q7, q8⟩ := FM _ hw)); (first | fail)); simp only [Act.put, List.setIfInBounds_toArray, List.set_cons_zero, List.set_cons_succ])
    | (apply SeqP.pure; rfl; (intro w2 hw; have hw := hTP _ hw; ((obtain ⟨q1, q7, q8⟩ := FM _ hw)); go_simp; with_reducible rfl); simp only [Act.put, List.setIfInBounds_toArray, List.set_cons_zero, List.set_cons_succ])
    | (apply SeqP.split; rfl; rfl; all_goals (intro hc; simp only [hc]; try simp only [beq_iff_eq, decide_eq_true_eq, beq_eq_false_iff_ne, decide_eq_false_iff_not, bne_iff_ne, ne_eq, Bool.not_eq_true', Bool.not_eq_false', Int.not_le, Int.not_lt, bne_eq_false_iff_eq, Bool.or_eq_true, Bool.and_eq_true, Bool.or_eq_false_iff] at hc)))
  apply SeqP.eff
  · rfl
  intro KE hKE
  go_wp2_with fail
  have B3 : Blk (wq.setCell ⟨g, 4 + K, none⟩ (.int .i64 (max (o.has K) x.m.len))) g 78 (ownv { o with has := up7 o.has K (max (o.has K) x.m.len) }) := by
    rw [← ownv_setHas o hK7]
    exact HD.out.2.2.set (4 + K) _
  have M3 : Blk (wq.setCell ⟨g, 4 + K, none⟩ (.int .i64 (max (o.has K) x.m.len))) w.heap.size 43 (mailv x) := HD.out.2.1.far (p := ⟨g, 4 + K, none⟩) hne _
  have K3 : Kept w (wq.setCell ⟨g, 4 + K, none⟩ (.int .i64 (max (o.has K) x.m.len))) (some g) none := (Kept.ofBelow HD.out.1 _ _).trans (Kept.ofGrown (only_setCell (World.grownBy.refl wq _) (.inl rfl) _))
  have HT := Lib.hid (And.intro B3 (And.intro M3 K3))
  refine hKE _ _ (hTP' _ M3) ?_
  clear hKE KE B3 M3 K3 hck
  apply SeqP.nil
  refine hKP _ _ (hTP' _ (HT.out.2.1)) ?_
  clear hKP hTP hTP'
  generalize (wq.setCell ⟨g, 4 + K, none⟩ (.int .i64 (max (o.has K) x.m.len))) = w3 at *
  go_wp2_with fail
  have hdd : Below w3.heap.size w3 w3.drew := (Below.refl _ _).drew
  have HT2 := Lib.hid (show Blk w3.drew g 78 (ownv { o with has := up7 o.has K (max (o.has K) x.m.len) }) ∧ Blk w3.drew w.heap.size 43 (mailv x) ∧ Kept w w3.drew (some g) none from ⟨HT.out.1.drew, HT.out.2.1.drew, HT.out.2.2.trans (Kept.ofBelow hdd _ _)⟩)
  clear HT hdd
  refine wp_region_p ([(0, true), (1, true), (2, true), (3, true), (4, true), (5, true), (6, true), (7, true), (8, true), (10, true), (11, true), (13, true), (14, true), (9, false), (12, true), (15, true), (16, false)]) (fun w' => Blk w' w.heap.size 43 (mailv x)) (by kernel_rfl) rfl (by kernel_rfl) (by kernel_rfl) (HT2.out.2.1) rfl ?_
  intro KP RP TP hKP hTP hTP'
  simp only [List.append_eq, List.cons_append, List.nil_append, pick, nth]
  generalize w3.drew = wr at *
  go_wp2_with (first
    | (apply SeqP.skip; rfl; simp only [Act.put, List.setIfInBounds_toArray, List.set_cons_zero, List.set_cons_succ])
    | (apply SeqP.call; rfl; rfl; (intro w2 hw; have hw := hTP _ hw; ((obtain ⟨q1, q7, q8⟩ := FM _ hw)); go_simp; exact ⟨rfl, rfl⟩); (intro w2 hw; have hw := hTP _ hw; ((obtain ⟨q1, q7, q8⟩ := FM _ hw)); (first | fail)); simp only [Act.put, List.setIfInBounds_toArray, List.set_cons_zero, List.set_cons_succ])
    | (apply SeqP.pure; rfl; (intro w2 hw; have hw := hTP _ hw; ((obtain ⟨q1, q7, q8⟩ := FM _ hw)); go_simp; with_reducible rfl); simp only [Act.put, List.setIfInBounds_toArray, List.set_cons_zero, List.set_cons_succ])
    | (apply SeqP.split; rfl; rfl; all_goals (intro hc; simp only [hc]; try simp only [beq_iff_eq, decide_eq_true_eq, beq_eq_false_iff_ne, decide_eq_false_iff_not, bne_iff_ne, ne_eq, Bool.not_eq_true', Bool.not_eq_false', Int.not_le, Int.not_lt, bne_eq_false_iff_eq, Bool.or_eq_true, Bool.and_eq_true, Bool.or_eq_false_iff] at hc)))
  have hcs : wr.cell? ⟨g, 11 + K, none⟩ = some (.int .i64 (o.st K)) := by rw [HT2.out.1.cell, ownv_st _ hK7]
  have hfs : wr.frozen? ⟨g, 11 + K, none⟩ = false := HT2.out.1.frozen _
  apply SeqP.eff
  · rfl
  intro KE hKE
  go_wp2_with fail
  refine hKE _ _ (hTP' _ HT2.out.2.1) ?_
  clear hKE KE
  go_wp2_with (first
    | (apply SeqP.skip; rfl; simp only [Act.put, List.setIfInBounds_toArray, List.set_cons_zero, List.set_cons_succ])
    | (apply SeqP.call; rfl; rfl; (intro w2 hw; have hw := hTP _ hw; ((obtain ⟨q1, q7, q8⟩ := FM _ hw)); go_simp; exact ⟨rfl, rfl⟩); (intro w2 hw; have hw := hTP _ hw; ((obtain ⟨q1, q7, q8⟩ := FM _ hw)); (first | fail)); simp only [Act.put, List.setIfInBounds_toArray, List.set_cons_zero, List.set_cons_succ])
    | (apply SeqP.pure; rfl; (intro w2 hw; have hw := hTP _ hw; ((obtain ⟨q1, q7, q8⟩ := FM _ hw)); go_simp; with_reducible rfl); simp only [Act.put, List.setIfInBounds_toArray, List.set_cons_zero, List.set_cons_succ])
    | (apply SeqP.split; rfl; rfl; all_goals (intro hc; simp only [hc]; try simp only [beq_iff_eq, decide_eq_true_eq, beq_eq_false_iff_ne, decide_eq_false_iff_not, bne_iff_ne, ne_eq, Bool.not_eq_true', Bool.not_eq_false', Int.not_le, Int.not_lt, bne_eq_false_iff_eq, Bool.or_eq_true, Bool.and_eq_true, Bool.or_eq_false_iff] at hc)))
  apply SeqP.eff
  · rfl
  intro KE hKE
  go_wp2_with fail
  have B4 : Blk (wr.setCell ⟨g, 11 + K, none⟩ (.int .i64 (max (o.st K) x.m.stamp))) g 78 (ownv { o with has := up7 o.has K (max (o.has K) x.m.len), st := up7 o.st K (max (o.st K) x.m.stamp) }) := by
    have := ownv_setSt { o with has := up7 o.has K (max (o.has K) x.m.len) } hK7 (max (o.st K) x.m.stamp)
    rw [← this]
    exact HT2.out.1.set (11 + K) _
  have M4 : Blk (wr.setCell ⟨g, 11 + K, none⟩ (.int .i64 (max (o.st K) x.m.stamp))) w.heap.size 43 (mailv x) := HT2.out.2.1.far (p := ⟨g, 11 + K, none⟩) hne _
  have K4 : Kept w (wr.setCell ⟨g, 11 + K, none⟩ (.int .i64 (max (o.st K) x.m.stamp))) (some g) none := HT2.out.2.2.trans (Kept.ofGrown (only_setCell (World.grownBy.refl wr _) (.inl rfl) _))
  have HQ := Lib.hid (And.intro B4 K4)
  refine hKE _ _ (hTP' _ M4) ?_
  clear hKE KE hcs hfs
  apply SeqP.nil
  refine hKP _ _ (hTP' _ (M4)) ?_
  clear hKP hTP hTP'
  clear M4 B4 K4
  go_wp2_with fail
  go_ret
  refine ⟨ret_bool (by rw [decide_eq_true HOK.out]), ?_, HQ.out.2⟩
  unfold ackS
  rw [if_pos HOK.out, HK.out.2]
  exact HQ.out.1
end Go.Proofs.Ytdphfhenjndkkaa

set_option linter.unusedSimpArgs false
set_option linter.unusedVariables false
set_option maxRecDepth 100000
namespace Go.Proofs.Ytdphfhenjndkkaa
open Go Go.RowKit Go.Sq Go.Wd Go.Arch

def LaS (w w' : World) (g : Nat) (o : OwnS) (x : MailV) : Prop := Blk w' w.heap.size 43 (mailv x) ∧ Blk w' g 78 (ownv o)
theorem LaS.keep {w w' w'' : World} {g : Nat} {o : OwnS} {x : MailV} (h : LaS w w' g o x) (hb : Below w'.heap.size w' w'') : LaS w w'' g o x := ⟨h.1.keep hb, h.2.keep hb⟩

set_option maxHeartbeats 4000000 in
theorem lays_yes (g : Nat) (o : OwnS) (r : RegS) (A : Option Addr) (k c : Nat) (to : Int) (b : Nat) (now : Int) (x : MailV) (w : World) (hb : Blk w g 78 (ownv o)) (hst : o.stream = 1) (hl : LogAt w w.heap.size (A, k, c) r.log) (hxl : LogAt w w.heap.size x.es x.m.ents)
    (hx : x.m = layM o r to b now) (hbk : b ≤ k) :
    Calls Try.prog 33 #[.agg (mailv x).toArray, .pointer (some ⟨g, 0, none⟩), .int .i64 to, .int .i64 (b : Int), .slice A k c, .int .i64 r.com, .int .i64 now] w fun e w' => e = .returned (.bool true) ∧ Below w.heap.size w w' := by
  have hk : k = r.log.length := hl.1
  have hk2 : k ≤ 9223372036854775807 := by have h1 := hl.2.1; have h2 := hl.2.2.1; dsimp only at h1 h2; omega
  obtain ⟨d, hd⟩ : ∃ d : Nat, k = b + d := ⟨k - b, by omega⟩
  have hes : x.m.ents = r.log.drop b := by rw [hx]; rfl
  have hxn : x.es.2.1 = d := by rw [hxl.1, hes, List.length_drop, ← hk]; omega
  have hsub : (k : Int) - (b : Int) = (d : Int) := by omega
  have d0 : (0 : Int) ≤ (d : Int) := by omega
  have d1 : (d : Int) ≤ 9223372036854775807 := by omega
  have dw : IntKind.i64.wrap (d : Int) = (d : Int) := IntWalk.i64_in _ (by omega)
  have hw0 : Below w.heap.size w (w.alloc (.cells (mailv x).toArray 43)).drew := ((Below.refl _ _).alloc (Nat.le_refl _) _).drew
  have B0 : Blk (w.alloc (.cells (mailv x).toArray 43)).drew w.heap.size 43 (mailv x) := (Blk.new w _ _).drew
  have lg := hb.lt
  have FC : ∀ w', LaS w w' g o x → (w'.cell? ⟨w.heap.size, 0, none⟩ = some (.int .i64 4) ∧ w'.cell? ⟨w.heap.size, 1, none⟩ = some (.int .i64 o.site) ∧ w'.cell? ⟨w.heap.size, 2, none⟩ = some (.int .i64 to) ∧ w'.cell? ⟨w.heap.size, 3, none⟩ = some (.int .i64 1) ∧ w'.cell? ⟨w.heap.size, 4, none⟩ = some (.int .i64 o.epoch)) ∧
      (w'.cell? ⟨w.heap.size, 6, none⟩ = some (.int .i64 (b : Int)) ∧ w'.cell? ⟨w.heap.size, 7, none⟩ = some (.int .i64 r.com) ∧ w'.cell? ⟨w.heap.size, 8, none⟩ = some (.int .i64 now) ∧ w'.cell? ⟨w.heap.size, 9, none⟩ = some (.slice x.es.1 d x.es.2.2)) ∧ w'.cell? ⟨g, 1, none⟩ = some (.int .i64 o.epoch) ∧ w'.cell? ⟨g, 2, none⟩ = some (.int .i64 o.site) := fun w' h => by
    obtain ⟨h1, h2⟩ := h
    have c0 := h1.cell 0
    have c1 := h1.cell 1
    have c2 := h1.cell 2
    have c3 := h1.cell 3
    have c4 := h1.cell 4
    have c6 := h1.cell 6
    have c7 := h1.cell 7
    have c8 := h1.cell 8
    have c9 := h1.cell 9
    unfold mailv at c0 c1 c2 c3 c4 c6 c7 c8 c9
    rw [hx] at c0 c1 c2 c3 c4 c6 c7 c8 c9
    rw [hxn] at c9
    exact ⟨⟨c0, c1, c2, by rw [← hst]; exact c3, c4⟩, ⟨c6, c7, c8, c9⟩, h2.cell 1, h2.cell 2⟩
  have HA := Lib.hid (And.intro hw0 (And.intro (show LaS w _ g o x from ⟨B0, hb.keep hw0⟩) (And.intro (hl.keep hw0) (And.intro (hxl.keep hw0) (And.intro hk (And.intro hd hes))))))
  have n1 : (o.site != o.site) = false := by simp
  have n2 : (to != to) = false := by simp
  have n3 : (o.epoch != o.epoch) = false := by simp
  have n4 : ((b : Int) != (b : Int)) = false := by simp
  have n5 : (r.com != r.com) = false := by simp
  have n6 : (now != now) = false := by simp
  have n7 : ((d : Int) != (d : Int)) = false := by simp
  have hdk : d ≤ k := by omega
  clear hw0 B0 hb hst hl hxl hk hd hes hxn hx
  go_enter Try.func33, Try.ntmps33
  go_wp2_with fail
  refine wp_region_p ([(0, true), (1, true), (2, true), (3, true), (4, true), (5, true), (6, true), (7, true), (8, true), (9, true), (10, true), (11, true), (12, true), (13, true), (14, true), (15, true), (16, true), (17, true), (18, true), (19, true), (20, true), (21, true), (22, true), (23, true), (24, true), (25, true), (26, true), (27, true), (28, true), (29, true), (30, true), (31, true), (32, true), (33, true), (34, true), (35, true), (36, true), (37, true), (38, true), (39, true), (40, true), (41, true), (42, true), (43, true), (44, true), (45, true), (46, true), (47, true), (48, true), (49, true), (50, true), (51, true), (52, true), (53, true), (54, true), (55, true), (56, true), (57, true), (58, true), (59, true)]) (fun w' => LaS w w' g o x) (by kernel_rfl) rfl (by kernel_rfl) (by kernel_rfl) (HA.out.2.1) rfl ?_
  intro KP RP TP hKP hTP hTP'
  simp only [List.append_eq, List.cons_append, List.nil_append, pick, nth]
  generalize (w.alloc (.cells (mailv x).toArray 43)).drew = w1 at *
  go_wp2_with (first
    | (apply SeqP.skip; rfl; simp only [Act.put, List.setIfInBounds_toArray, List.set_cons_zero, List.set_cons_succ])
    | (apply SeqP.call; rfl; rfl; (intro w2 hw; have hw := hTP _ hw; ((obtain ⟨⟨q0, q1, q2, q3, q4⟩, ⟨q6, q7, q8, q9⟩, r1, r2⟩ := FC _ hw)); go_simp; exact ⟨rfl, rfl⟩); (intro w2 hw; have hw := hTP _ hw; ((obtain ⟨⟨q0, q1, q2, q3, q4⟩, ⟨q6, q7, q8, q9⟩, r1, r2⟩ := FC _ hw)); (first | fail)); simp only [Act.put, List.setIfInBounds_toArray, List.set_cons_zero, List.set_cons_succ])
    | (apply SeqP.pure; rfl; (intro w2 hw; have hw := hTP _ hw; ((obtain ⟨⟨q0, q1, q2, q3, q4⟩, ⟨q6, q7, q8, q9⟩, r1, r2⟩ := FC _ hw)); go_simp; with_reducible rfl); simp only [Act.put, List.setIfInBounds_toArray, List.set_cons_zero, List.set_cons_succ])
    | (apply SeqP.split; rfl; rfl; all_goals (intro hc; simp only [hc]; try simp only [beq_iff_eq, decide_eq_true_eq, beq_eq_false_iff_ne, decide_eq_false_iff_not, bne_iff_ne, ne_eq, Bool.not_eq_true', Bool.not_eq_false', Int.not_le, Int.not_lt, bne_eq_false_iff_eq, Bool.or_eq_true, Bool.and_eq_true, Bool.or_eq_false_iff] at hc)))
  apply SeqP.nil
  refine hKP _ _ (hTP' _ (HA.out.2.1)) ?_
  clear hKP hTP hTP'
  go_wp2_with fail

  go_loopg [15] d (fun q i wr => ∃ j : Nat, q = d - j ∧ j ≤ d ∧ i = .int .i64 j ∧ Below w1.heap.size w1 wr)
  case atStart => exact ⟨0, rfl, by omega, rfl, Below.refl _ _⟩
  case round =>
    obtain ⟨j, hq, hj, rfl, hwr⟩ := hrel
    have AA : Aside (gk = d - j) := hq
    clear hq
    obtain ⟨wo, rfl⟩ : ∃ wo, wo = wr := ⟨_, rfl⟩
    obtain ⟨⟨q0, q1, q2, q3, q4⟩, ⟨q6, q7, q8, q9⟩, r1, r2⟩ := FC _ (HA.out.2.1.keep hwr)
    clear q0 q1 q2 q3 q4 q6 q7 q8 r1 r2
    by_cases hlt : j < d
    · have j0 : (0 : Int) ≤ (j : Int) := by omega
      have j1 : (j : Int) < (d : Int) := by omega
      obtain ⟨p, hp⟩ : ∃ p : Nat, p = b + j := ⟨_, rfl⟩
      have hadd : (b : Int) + (j : Int) = (p : Int) := by omega
      have pn : (0 : Int) ≤ (p : Int) := by omega
      have hpk : p < k := by have := HA.out.2.2.2.2.2.1; omega
      have pl : (p : Int) < (k : Int) := by omega
      have pw : IntKind.i64.wrap (p : Int) = (p : Int) := IntWalk.i64_in _ (by omega)
      obtain ⟨b1, o1, e, hA1, he, FA⟩ := HA.out.2.2.2.1.2.2.2.at_ (k := j) (by rw [HA.out.2.2.2.2.2.2, List.length_drop, ← HA.out.2.2.2.2.1]; have := HA.out.2.2.2.2.2.1; omega)
      obtain ⟨b2, o2, f, hA2, hf, FB⟩ := HA.out.2.2.1.2.2.2.at_ (k := p) (by rw [← HA.out.2.2.2.2.1]; exact hpk)
      obtain rfl : e = f := by
        have h1 := he.out
        rw [HA.out.2.2.2.2.2.2, List.getElem?_drop, ← hp, hf.out] at h1
        exact (Option.some.inj h1).symm
      cases hA2
      have HFA := Lib.hid FA
      have HFB := Lib.hid FB
      have HA1 := Lib.hid hA1
      clear FA FB hA1 hp
      rw [HA1.out] at q9
      have HW := Lib.hid hwr.drew
      clear hwr
      go_wp2_with fail
      clear q9
      refine wp_region_p ([(0, true), (1, true), (2, true), (3, true), (4, true), (5, true), (6, true), (7, true), (8, true), (9, true), (10, true), (11, true)]) (fun w' => Below w1.heap.size w1 w') (by kernel_rfl) rfl (by kernel_rfl) (by kernel_rfl) (HW.out) rfl ?_
      intro KP RP TP hKP hTP hTP'
      simp only [pick, nth]
      generalize wo.drew = wp at *
      go_wp2_with (first
        | (apply SeqP.skip; rfl; simp only [Act.put, List.setIfInBounds_toArray, List.set_cons_zero, List.set_cons_succ])
        | (apply SeqP.aggbin; (with_reducible rfl); (with_reducible exact Try.eqGuardType64); rfl; rfl; rfl; (exact (fun w => neq_ent w e e)); simp only [Act.put, List.setIfInBounds_toArray, List.set_cons_zero, List.set_cons_succ])
        | (apply SeqP.call; rfl; rfl; (intro w2 hw; have hw := hTP _ hw; ((obtain ⟨-, ⟨-, -, -, q9⟩, -, -⟩ := FC _ (HA.out.2.1.keep hw); rw [HA1.out] at q9; obtain ⟨p0, p1, p2, p3, p4, p5⟩ := HFA.out _ hw; obtain ⟨q0, q1, q2, q3, q4, q5⟩ := HFB.out _ hw)); go_simp; exact ⟨rfl, rfl⟩); (intro w2 hw; have hw := hTP _ hw; ((obtain ⟨-, ⟨-, -, -, q9⟩, -, -⟩ := FC _ (HA.out.2.1.keep hw); rw [HA1.out] at q9; obtain ⟨p0, p1, p2, p3, p4, p5⟩ := HFA.out _ hw; obtain ⟨q0, q1, q2, q3, q4, q5⟩ := HFB.out _ hw)); (first | fail)); simp only [Act.put, List.setIfInBounds_toArray, List.set_cons_zero, List.set_cons_succ])
        | (apply SeqP.pure; rfl; (intro w2 hw; have hw := hTP _ hw; ((obtain ⟨-, ⟨-, -, -, q9⟩, -, -⟩ := FC _ (HA.out.2.1.keep hw); rw [HA1.out] at q9; obtain ⟨p0, p1, p2, p3, p4, p5⟩ := HFA.out _ hw; obtain ⟨q0, q1, q2, q3, q4, q5⟩ := HFB.out _ hw)); go_simp; with_reducible rfl); simp only [Act.put, List.setIfInBounds_toArray, List.set_cons_zero, List.set_cons_succ])
        | (apply SeqP.split; rfl; rfl; all_goals (intro hc; simp only [hc]; try simp only [beq_iff_eq, decide_eq_true_eq, beq_eq_false_iff_ne, decide_eq_false_iff_not, bne_iff_ne, ne_eq, Bool.not_eq_true', Bool.not_eq_false', Int.not_le, Int.not_lt, bne_eq_false_iff_eq, Bool.or_eq_true, Bool.and_eq_true, Bool.or_eq_false_iff] at hc)))
      apply SeqP.nil
      refine hKP _ _ (hTP' _ (HW.out)) ?_
      clear hKP hTP hTP'
      go_wp2_with fail
      go_roundg (d - (j + 1))
      case measure => have hkk := AA.out; omega
      case rel => exact ⟨j + 1, rfl, by omega, by go_num, HW.out⟩
    · obtain rfl : j = d := by omega
      have j1 : ¬ (j : Int) < (j : Int) := by omega
      have HZ := Lib.hid (below_trans HA.out.1 hwr HA.out.1.size)
      go_wp2_with fail
      go_ret
      exact ⟨rfl, HZ.out⟩
end Go.Proofs.Ytdphfhenjndkkaa

set_option linter.unusedSimpArgs false
set_option linter.unusedVariables false
set_option maxRecDepth 100000
namespace Go.Proofs.Ytdphfhenjndkkaa
open Go Go.RowKit Go.Sq Go.Wd Go.Arch

theorem acks_keep (l : List MailS) (o : OwnS) : (acksS o l).n = o.n ∧ (acksS o l).site = o.site ∧ (acksS o l).epoch = o.epoch ∧ (acksS o l).stream = o.stream := by
  induction l generalizing o with
  | nil => exact ⟨rfl, rfl, rfl, rfl⟩
  | cons a l ih =>
    have h : (ackS o a).n = o.n ∧ (ackS o a).site = o.site ∧ (ackS o a).epoch = o.epoch ∧ (ackS o a).stream = o.stream := by unfold ackS; split <;> exact ⟨rfl, rfl, rfl, rfl⟩
    have := ih (ackS o a)
    rw [h.1, h.2.1, h.2.2.1, h.2.2.2] at this
    exact this
/-- Owner and document's owner, alike. -/
def MlI (w wr : World) (g h : Nat) (o : OwnS) : Prop := Below w.heap.size w wr ∧ Blk wr g 116 (ownv o) ∧ Blk wr h 78 (ownv o) ∧ w.heap.size ≤ g ∧ w.heap.size ≤ h ∧ g ≠ h
section
variable {w wr wr' wr2 : World} {g h : Nat} {o p : OwnS}
theorem MlI.keep (H : MlI w wr g h o) (hb : Below wr.heap.size wr wr') : MlI w wr' g h o := by
  obtain ⟨h1, h2, h3, h4⟩ := H
  exact ⟨below_trans h1 hb h1.size, h2.keep hb, h3.keep hb, h4⟩
theorem MlI.both (H : MlI w wr g h o) (hb : Blk wr' g 116 (ownv p)) (hK : Kept wr wr' (some g) none) (hb2 : Blk wr2 h 78 (ownv p)) (hK2 : Kept wr' wr2 (some h) none) : MlI w wr2 g h p := by
  obtain ⟨h1, h2, h3, h4, h5, h6⟩ := H
  have a1 := h1.trans (hK.below (B := w.heap.size) (fun k e => by cases e; exact h4) (fun k e => by cases e) h1.size)
  exact ⟨a1.trans (hK2.below (B := w.heap.size) (fun k e => by cases e; exact h5) (fun k e => by cases e) a1.size), hK2.blk hb (fun e => h6 (Option.some.inj e)) (by simp), hb2, h4, h5, h6⟩
end

def regM (o : OwnS) (q : RegS) : RegS := ⟨o.epoch, o.epoch, q.log, q.com⟩
def agM (o : OwnS) (j b : Int) : MailV := ⟨⟨6, j, o.site, 1, o.epoch, 0, 0, b, 0, []⟩, (none, 0, 0), (0, 0, 0, 0, 0), (0, 0, 0)⟩
def regM1 (o : OwnS) : RegS := ⟨0, o.epoch + 1, [], 0⟩

set_option maxHeartbeats 16000000 in
theorem ownersMail_walk (x : MkS) (A0 : Option Addr) (c0 : Nat) (l : List MailV) (A2 : Option Addr) (c2 : Nat) (q : RegS) (sl : SlcE) (w : World) (hX : FineX x) (hs : Nums w w.heap.size A0 .u8 x.who) (hsl : x.who.length ≤ 9223372036854775807) (hl : Mails w w.heap.size A2 l) (hn : l.length ≤ 9223372036854775807)
    (hq : LogAt w w.heap.size sl q.log) :
    Calls Try.prog 9 #[.agg (begv20 x (A0, x.who.length, c0)).toArray, .slice A2 l.length c2, .agg (rgv q sl).toArray] w fun e w' => e = .returned (.bool true) ∧ Below w.heap.size w w' := by
  obtain ⟨A, k, c⟩ := sl
  have hk : k = q.log.length := hq.1
  have hz : Below w.heap.size w ((w.alloc (.cells (begv20 x (A0, x.who.length, c0)).toArray 68)).alloc (.cells (rgv q (A, k, c)).toArray 37)) := ((Below.refl _ _).alloc (Nat.le_refl _) _).alloc (by simp) _
  have BR := (Blk.new w 68 (begv20 x (A0, x.who.length, c0))).alloc (.cells (rgv q (A, k, c)).toArray 37)
  have BT := Blk.new1 w (.cells (begv20 x (A0, x.who.length, c0)).toArray 68) 37 (rgv q (A, k, c))
  have HD := Lib.hid (And.intro hz.drew (And.intro BR.drew (And.intro BT.drew (And.intro hs (And.intro hl (And.intro hq hk))))))
  have HX := Lib.hid hX
  clear hz BR hs hl hX BT hq hk
  have FT : ∀ w', Blk w' (w.heap.size + 1) 37 (rgv q (A, k, c)) → w'.cell? ⟨w.heap.size + 1, 1, none⟩ = some (.int .i64 q.view) ∧ w'.cell? ⟨w.heap.size + 1, 2, none⟩ = some (.slice A k c) ∧ w'.cell? ⟨w.heap.size + 1, 3, none⟩ = some (.int .i64 q.com) := fun w' h => ⟨h.cell 1, h.cell 2, h.cell 3⟩
  go_enter Try.func9, Try.ntmps9
  go_wp2_with fail
  refine wp_region_p ([(0, true), (1, true), (2, true), (3, true), (4, true), (5, true), (6, true), (7, true), (8, true)]) (fun w' => Blk w' (w.heap.size + 1) 37 (rgv q (A, k, c))) (by kernel_rfl) rfl (by kernel_rfl) (by kernel_rfl) (HD.out.2.2.1) rfl ?_
  intro KP RP TP hKP hTP hTP'
  simp only [List.append_eq, List.cons_append, List.nil_append, pick, nth]
  generalize ((w.alloc (.cells (begv20 x (A0, x.who.length, c0)).toArray 68)).alloc (.cells (rgv q (A, k, c)).toArray 37)).drew = wd at *
  go_wp2_with (first
    | (apply SeqP.skip; rfl; simp only [Act.put, List.setIfInBounds_toArray, List.set_cons_zero, List.set_cons_succ])
    | (apply SeqP.call; rfl; rfl; (intro w2 hw; have hw := hTP _ hw; ((obtain ⟨q1, q2, q3⟩ := FT _ hw)); go_simp; exact ⟨rfl, rfl⟩); (intro w2 hw; have hw := hTP _ hw; ((obtain ⟨q1, q2, q3⟩ := FT _ hw)); (first | fail)); simp only [Act.put, List.setIfInBounds_toArray, List.set_cons_zero, List.set_cons_succ])
    | (apply SeqP.pure; rfl; (intro w2 hw; have hw := hTP _ hw; ((obtain ⟨q1, q2, q3⟩ := FT _ hw)); go_simp; with_reducible rfl); simp only [Act.put, List.setIfInBounds_toArray, List.set_cons_zero, List.set_cons_succ])
    | (apply SeqP.split; rfl; rfl; all_goals (intro hc; simp only [hc]; try simp only [beq_iff_eq, decide_eq_true_eq, beq_eq_false_iff_ne, decide_eq_false_iff_not, bne_iff_ne, ne_eq, Bool.not_eq_true', Bool.not_eq_false', Int.not_le, Int.not_lt, bne_eq_false_iff_eq, Bool.or_eq_true, Bool.and_eq_true, Bool.or_eq_false_iff] at hc)))
  apply SeqP.nil
  refine hKP _ _ (hTP' _ (HD.out.2.2.1)) ?_
  clear hKP hTP hTP'
  have hcs : (100 : Int) < (l.length : Int) ∨ (¬ (100 : Int) < (l.length : Int) ∧ (64 : Int) < (k : Int)) ∨ (¬ (100 : Int) < (l.length : Int) ∧ ¬ (64 : Int) < (k : Int)) := by omega
  rcases hcs with h1 | ⟨h1, h64⟩ | ⟨h1, h64⟩
  iterate 2
    focus
      go_wp2_with fail
      refine (lives20_any _).mono ?_
      rintro e w1 ⟨rfl, hb⟩
      have hw1 := below_trans HD.out.1 hb HD.out.1.size
      clear hb
      go_wp2_with fail
      go_ret
      exact ⟨rfl, hw1⟩
  go_wp2_with ((with_reducible refine at_list ?_); first | refine wpList_load_blk rfl 68 _ rfl _ rfl _ _ _ (HD.out.2.1) Try.underlying68 rfl beg20_info ?_)
  have hm1 := made_any x A0 c0 _ HX.out (HD.out.2.2.2.1.below HD.out.1 |>.more HD.out.1.size) hsl
  have HM1 := Lib.hid hm1
  clear hm1
  refine HM1.out.mono ?_
  clear HM1
  rintro e w1 (⟨hwon, g, gr, rfl, hgw, hgr, hB1, hR1, hb1⟩ | ⟨hnw, rfl, hb1⟩)
  case inr =>
    have H1 := Lib.hid (below_trans HD.out.1 hb1 HD.out.1.size)
    clear hb1 hnw
    go_wp2_with fail
    refine (lives20_any _).mono ?_
    rintro e w3 ⟨rfl, hb⟩
    have hw3 := below_trans H1.out hb H1.out.size
    clear hb
    go_wp2_with fail
    go_ret
    exact ⟨rfl, hw3⟩
  have hne : g ≠ gr := fun e => by
    subst e
    exact blk_not hR1 (by decide) _ hB1
  have H1 := Lib.hid (show MlI w w1 g gr (mkO x) from ⟨below_trans HD.out.1 hb1 HD.out.1.size, hB1, hR1, by have := HD.out.1.size; omega, by have := HD.out.1.size; omega, hne⟩)
  clear hb1 hwon hB1 hgw hgr hR1 hne
  go_wp2_with fail
  go_loopg [12] l.length (fun q i wr => ∃ j : Nat, q = l.length - j ∧ j ≤ l.length ∧ i = .int .i64 j ∧ MlI w wr g gr (acksS (mkO x) ((l.map MailV.m).take j)))
  case atStart => exact ⟨0, rfl, by omega, rfl, H1.out⟩
  case round =>
    clear H1
    obtain ⟨j, hq, hj, rfl, hI⟩ := hrel
    have AA : Aside (gk = l.length - j) := hq
    clear hq
    obtain ⟨wo, rfl⟩ : ∃ wo, wo = wr := ⟨_, rfl⟩
    have HI := Lib.hid hI
    clear hI
    by_cases hlt : j < l.length
    · have j0 : (0 : Int) ≤ (j : Int) := by omega
      have j1 : (j : Int) < (l.length : Int) := by omega
      obtain ⟨b1, o1, y, rfl, hy, FA, _⟩ := HD.out.2.2.2.2.1.range hlt
      have HFA := Lib.hid FA
      clear FA
      go_wp2_with ((with_reducible refine at_list ?_); refine wpList_load_mid rfl 43 _ rfl _ _ rfl _ _ (HFA.out _ HI.out.1) Try.underlying43 rfl mail_info ?_)
      refine (ack_any g _ y wo HI.out.2.1 (fine_acks _ (mk_fine HX.out))).mono ?_
      rintro e w3 ⟨rfl, hB3, hK3⟩
      have hb3 : Below w.heap.size w w3 := HI.out.1.trans (hK3.below (B := w.heap.size) (fun k e => by cases e; exact HI.out.2.2.2.1) (fun k e => by cases e) HI.out.1.size)
      have hR3 := hK3.blk HI.out.2.2.1 (fun e => HI.out.2.2.2.2.2 (Option.some.inj e).symm) (by simp)
      have H3 := Lib.hid (And.intro hb3 (And.intro hB3 (And.intro hK3 hR3)))
      clear hb3 hB3 hK3 hR3
      go_wp2_with ((with_reducible refine at_list ?_); refine wpList_load_mid rfl 43 _ rfl _ _ rfl _ _ (HFA.out _ H3.out.1) Try.underlying43 rfl mail_info ?_)
      refine (rack_any gr _ y w3 H3.out.2.2.2 (fine_acks _ (mk_fine HX.out))).mono ?_
      rintro e w4 ⟨rfl, hB4, hK4⟩
      have hI4 := HI.out.both H3.out.2.1 H3.out.2.2.1 hB4 hK4
      have hL : (l.map MailV.m)[j]? = some y.m := by rw [List.getElem?_map, hy.out]; rfl
      rw [← acksS_take _ hL] at hI4
      have H4 := Lib.hid hI4
      clear hI4 hB4 hK4 H3 HI hL
      go_wp2_with fail
      go_roundg (l.length - (j + 1))
      case measure => have hkk := AA.out; omega
      case rel => exact ⟨j + 1, rfl, by omega, by go_num, H4.out⟩
    · obtain rfl : j = l.length := by omega
      have j1 : ¬ (l.length : Int) < (l.length : Int) := by omega
      obtain ⟨o, ho⟩ : ∃ o, acksS (mkO x) (l.map MailV.m) = o := ⟨_, rfl⟩
      have hF : FineO o := by rw [← ho]; exact fine_acks _ (mk_fine HX.out)
      have e1 : (l.map MailV.m).take l.length = l.map MailV.m := List.take_of_length_le (by rw [List.length_map]; omega)
      have hko := acks_keep (l.map MailV.m) (mkO x)
      rw [ho] at hko
      have hst : o.stream = 1 := hko.2.2.2
      have hep : 5 ≤ o.epoch ∧ o.epoch ≤ 11 := by
        obtain ⟨h1, h2, h3⟩ := mk_n HX.out
        obtain ⟨n1, n2, n3, n4⟩ := next_four h1 h2 h3
        rw [hko.2.2.1]
        exact ⟨n3, n4⟩
      have H4 := Lib.hid (show MlI w wo g gr o from by
        have h := HI.out
        rw [e1, ho] at h
        exact h)
      have HK := Lib.hid (And.intro hF hst)
      have ep0 := hep.1
      have ep1 := hep.2
      obtain ⟨n, hn'⟩ : ∃ n : Nat, o.n = n := ⟨o.n.toNat, by have := sites_cases hF.1; omega⟩
      have hn2 : 2 ≤ n ∧ n ≤ 7 := by have := sites_cases hF.1; omega
      have HN := Lib.hid hn'
      clear HI hF e1 ho hko hst hep hn'
      have FR : ∀ w', Blk w' gr 78 (ownv o) → w'.cell? ⟨gr, 1, none⟩ = some (.int .i64 o.epoch) ∧ w'.cell? ⟨gr, 2, none⟩ = some (.int .i64 o.site) ∧ w'.cell? ⟨gr, 3, none⟩ = some (.int .i64 (n : Int)) := fun w' h => ⟨h.cell 1, h.cell 2, by rw [← HN.out]; exact h.cell 3⟩
      have H5 := Lib.hid (H4.out.keep (Below.refl _ _).drew)
      clear H4
      go_wp2_with fail
      refine wp_region_p ([(0, true), (1, true), (2, true), (3, true), (4, true), (5, true), (6, true), (7, true), (8, true), (9, true), (10, true), (11, false), (12, false)]) (fun w' => MlI w w' g gr o) (by kernel_rfl) rfl (by kernel_rfl) (by kernel_rfl) (H5.out) rfl ?_
      intro KP RP TP hKP hTP hTP'
      simp only [List.append_eq, List.cons_append, List.nil_append, pick, nth]
      generalize wo.drew = wp at *
      go_wp2_with (first
        | (apply SeqP.skip; rfl; simp only [Act.put, List.setIfInBounds_toArray, List.set_cons_zero, List.set_cons_succ])
        | (apply SeqP.call; rfl; rfl; (intro w2 hw; have hw := hTP _ hw; ((obtain ⟨r1, r2, r3⟩ := FR _ hw.2.2.1)); go_simp; exact ⟨rfl, rfl⟩); (intro w2 hw; have hw := hTP _ hw; ((obtain ⟨r1, r2, r3⟩ := FR _ hw.2.2.1)); (first | fail)); simp only [Act.put, List.setIfInBounds_toArray, List.set_cons_zero, List.set_cons_succ])
        | (apply SeqP.pure; rfl; (intro w2 hw; have hw := hTP _ hw; ((obtain ⟨r1, r2, r3⟩ := FR _ hw.2.2.1)); go_simp; with_reducible rfl); simp only [Act.put, List.setIfInBounds_toArray, List.set_cons_zero, List.set_cons_succ])
        | (apply SeqP.split; rfl; rfl; all_goals (intro hc; simp only [hc]; try simp only [beq_iff_eq, decide_eq_true_eq, beq_eq_false_iff_ne, decide_eq_false_iff_not, bne_iff_ne, ne_eq, Bool.not_eq_true', Bool.not_eq_false', Int.not_le, Int.not_lt, bne_eq_false_iff_eq, Bool.or_eq_true, Bool.and_eq_true, Bool.or_eq_false_iff] at hc)))
      apply SeqP.eff
      · rfl
      intro KE hKE
      go_wp2_with fail
      refine hKE _ _ (hTP' _ (H5.out.keep ((Below.refl _ _).alloc (Nat.le_refl _) _))) ?_
      clear hKE KE
      apply SeqP.eff
      · rfl
      intro KE hKE
      refine wp_store_blk 37 _ _ rfl _ (rgv (regM o q) (A, k, c)) rfl rfl _ _ (Blk.new wp 37 (rgv reg0 (none, 0, 0))) rg_info rfl (by simp [rgv, Value.oneCell']) ?_
      intro w8 B8 hb8 hk8
      have h8 := H5.out.keep (((Below.refl wp.heap.size wp).alloc (Nat.le_refl _) (.cells (rgv reg0 (none, 0, 0)).toArray 37)).trans (hb8 _ (Nat.le_refl _)))
      have H8 := Lib.hid (And.intro h8 B8)
      clear h8 B8 hb8 hk8 H5
      refine hKE _ _ (hTP' _ H8.out.1) ?_
      clear hKE KE
      apply SeqP.nil
      refine hKP _ _ (hTP' _ (H8.out.1)) ?_
      clear hKP hTP hTP'
      generalize wp.heap.size = gz at H8 ⊢
      go_wp2_with ((with_reducible refine at_list ?_); first | refine wpList_load_blk rfl 37 _ rfl _ rfl _ _ _ (H8.out.2) Try.underlying37 rfl rg_info ?_)
      have hq8 := (HD.out.2.2.2.2.2.1.below H8.out.1.1).more H8.out.1.1.size
      have HQ8 := Lib.hid hq8
      clear hq8
      refine (omail_yes g o (regM o q) (A, k, c) q.view n w8 H8.out.1.2.1 HK.out.1 rfl HQ8.out (by show q.log.length ≤ 2000; have := HD.out.2.2.2.2.2.2; omega) HN.out).mono ?_
      rintro e w9 ⟨v, L, rfl, hR, hL, hb9⟩
      obtain ⟨Am, cm, rfl, hm1, hm2, hMs⟩ := hR.mails
      have hLl : L.length = (layTo o (regM o q) q.view n).length := by rw [← hL, List.length_map]
      have hln := layTo_len (o := o) (r := regM o q) (now := q.view) n
      obtain ⟨s0, s1⟩ := (show 0 ≤ o.site ∧ o.site < n from by have := HK.out.1; have := HN.out; exact ⟨HK.out.1.2.1, by rw [← HN.out]; exact HK.out.1.2.2⟩)
      rw [if_pos ⟨s0, s1⟩, ← hLl] at hln
      obtain ⟨m, hm⟩ : ∃ m, L.length = m := ⟨_, rfl⟩
      rw [hm] at hln ⊢
      have H9 := Lib.hid (And.intro (H8.out.1.keep hb9) (And.intro (H8.out.2.keep hb9) (And.intro (HQ8.out.keep hb9) (And.intro hMs (And.intro hL hm)))))
      have hsub : (n : Int) - 1 = (m : Int) := by omega
      have mw : IntKind.i64.wrap (m : Int) = (m : Int) := IntWalk.i64_in _ (by omega)
      have mm : ((m : Int) != (m : Int)) = false := by simp
      have ew : IntKind.i64.wrap (o.epoch + 1) = o.epoch + 1 := IntWalk.i64_in _ (by omega)
      clear hb9 hR hMs hL hm hm1 hm2 hln hLl H8 HQ8
      obtain ⟨r1, r2, r3⟩ := FR _ H9.out.1.2.2.1
      go_wp2_with fail
      refine (omail_no g o (regM1 o) (A, k, c) q.view w9 H9.out.1.2.1 HK.out.1 (by show o.epoch + 1 ≠ o.epoch; omega)).mono ?_
      rintro e w10 ⟨rfl, hb10⟩
      obtain ⟨h91, h92, h93, h94, h95⟩ := H9.out
      have H10 := Lib.hid (And.intro (h91.keep hb10) (And.intro (h92.keep hb10) (And.intro (h93.keep hb10) (And.intro (h94.keep hb10) h95))))
      clear hb10 H9 h91 h92 h93 h94 h95 r1 r2 r3 mm mw ew
      go_wp2_with fail
      have hfin : Below w10.heap.size w10 w10 := Below.refl _ _
      have HSB := Lib.hid hsub
      clear hsub
      go_loopg [15, 16] n (fun q' kv i wr => ∃ j : Nat, q' = n - j ∧ j ≤ n ∧ kv = .int .i64 ((layTo o (regM o q) q.view j).length : Int) ∧ i = .int .i64 j ∧ Below w10.heap.size w10 wr)
      case atStart => exact ⟨0, rfl, by omega, rfl, rfl, hfin⟩
      case round =>
        clear hfin AA
        obtain ⟨j, hq, hj, rfl, rfl, hwr⟩ := hrel
        have AA : Aside (gk = n - j) := hq
        clear hq
        obtain ⟨wt, rfl⟩ : ∃ wt, wt = wr := ⟨_, rfl⟩
        obtain ⟨kk, hkk⟩ : ∃ kk, (layTo o (regM o q) q.view j).length = kk := ⟨_, rfl⟩
        rw [hkk]
        have HKK := Lib.hid hkk
        obtain ⟨r1, r2, r3⟩ := FR _ (H10.out.1.2.2.1.keep hwr)
        by_cases hlt : j < n
        · have j0 : (0 : Int) ≤ (j : Int) := by omega
          have j1 : (j : Int) < (n : Int) := by omega
          by_cases hs : (j : Int) = o.site
          · have HS := Lib.hid hs
            have hse : ((j : Int) == o.site) = true := by simpa using hs
            clear hs hkk
            go_wp2_with fail
            go_roundg (n - (j + 1))
            case measure => have hkk := AA.out; omega
            case rel => exact ⟨j + 1, rfl, by omega, by rw [layTo_no HS.out, HKK.out], by go_num, hwr⟩
          · have HS := Lib.hid hs
            have hse : ((j : Int) == o.site) = false := by simpa using hs
            have j7 : (j : Int) < 7 := by omega
            obtain ⟨b, hb⟩ : ∃ b, baseO o k j = b := ⟨_, rfl⟩
            have hmn : min (max (o.has j) 0) (k : Int) = (b : Int) := by rw [← hb]; exact baseO_is o k j
            have hbk : b ≤ k := by rw [← hb]; exact baseO_le o k j
            have c4 : wt.cell? ⟨gr, 4 + j, none⟩ = some (.int .i64 (o.has j)) := by rw [(H10.out.1.2.2.1.keep hwr).cell, ownv_has _ (show j < 7 by omega)]
            have hat : (layTo o (regM o q) q.view n)[kk]? = some (layM o (regM o q) (j : Int) b q.view) := by
              have h := layTo_at (o := o) (r := regM o q) (now := q.view) hlt hs
              rw [hkk, show (regM o q).log.length = k from HD.out.2.2.2.2.2.2.symm, hb] at h
              exact h
            have hkm : kk < L.length := by
              have h := (List.getElem?_eq_some_iff.1 hat).1
              rw [← H10.out.2.2.2.2.1, List.length_map] at h
              exact h
            obtain ⟨b1, o1, y, rfl, hy, FA, hLy⟩ := H10.out.2.2.2.1.range hkm
            have hym : y.m = layM o (regM o q) (j : Int) b q.view := by
              have h : (L.map MailV.m)[kk]? = some y.m := by rw [List.getElem?_map, hy.out]; rfl
              rw [H10.out.2.2.2.2.1, hat] at h
              exact (Option.some.inj h).symm
            have hnx : ((layTo o (regM o q) q.view (j + 1)).length : Int) = (kk : Int) + 1 := by
              rw [layTo_yes hs, List.length_append, hkk]
              rfl
            have kb : (kk : Int) < (m : Int) := by have := H10.out.2.2.2.2.2; omega
            have k0 : (0 : Int) ≤ (kk : Int) := by omega
            have kb2 : kk < 7 := by have := H10.out.2.2.2.2.2; have h := HSB.out; omega
            have kw : IntKind.i64.wrap ((kk : Int) + 1) = (kk : Int) + 1 := IntWalk.i64_in _ (by omega)
            have HFA := Lib.hid FA
            have HY := Lib.hid (And.intro hym (And.intro hbk (And.intro hnx (HD.out.2.2.2.2.2.2))))
            clear FA hat hym hbk hnx hkm hs hkk hb
            go_wp2_with ((with_reducible refine at_list ?_); refine wpList_load_mid rfl 43 _ rfl _ _ rfl _ _ (HFA.out _ hwr) Try.underlying43 rfl mail_info ?_)
            have hl1 := H10.out.2.2.1.keep hwr
            have hl2 := hLy.out.keep hwr
            refine (lays_yes gr o (regM o q) A k c (j : Int) b q.view y wt (H10.out.1.2.2.1.keep hwr) HK.out.2 hl1 hl2 HY.out.1 HY.out.2.1).mono ?_
            rintro e w11 ⟨rfl, hb11⟩
            have hw11 := (below_trans hwr hb11 hwr.size).drew
            have HW := Lib.hid hw11
            clear hb11 hl1 hl2 hw11 hwr r1 r2 r3 c4 hmn
            go_wp2_with fail
            refine wp_region_p ([(0, true), (1, true), (2, true), (3, true), (4, true), (5, true), (6, true), (7, true), (8, true), (9, true), (10, true), (11, true), (12, true), (13, true), (14, false), (15, true)]) (fun w' => Below w10.heap.size w10 w') (by kernel_rfl) rfl (by kernel_rfl) (by kernel_rfl) (HW.out) rfl ?_
            intro KP RP TP hKP hTP hTP'
            simp only [List.append_eq, List.cons_append, List.nil_append, pick, nth]
            generalize w11.drew = wu at *
            go_wp2_with (first
              | (apply SeqP.skip; rfl; simp only [Act.put, List.setIfInBounds_toArray, List.set_cons_zero, List.set_cons_succ])
              | (apply SeqP.pure; rfl; (intro w2 hw; have hw := hTP _ hw; exact exec_load_blk 37 _ rfl _ rfl _ _ (H10.out.2.1.keep hw) _ Try.underlying37 rfl rg_info); simp only [Act.put, List.setIfInBounds_toArray, List.set_cons_zero, List.set_cons_succ])
              | (apply SeqP.call; rfl; rfl; (intro w2 hw; have hw := hTP _ hw; ((obtain ⟨r1, r2, r3⟩ := FR _ (H10.out.1.2.2.1.keep hw))); go_simp; exact ⟨rfl, rfl⟩); (intro w2 hw; have hw := hTP _ hw; ((obtain ⟨r1, r2, r3⟩ := FR _ (H10.out.1.2.2.1.keep hw))); (first | fail)); simp only [Act.put, List.setIfInBounds_toArray, List.set_cons_zero, List.set_cons_succ])
              | (apply SeqP.pure; rfl; (intro w2 hw; have hw := hTP _ hw; ((obtain ⟨r1, r2, r3⟩ := FR _ (H10.out.1.2.2.1.keep hw))); go_simp; with_reducible rfl); simp only [Act.put, List.setIfInBounds_toArray, List.set_cons_zero, List.set_cons_succ])
              | (apply SeqP.split; rfl; rfl; all_goals (intro hc; simp only [hc]; try simp only [beq_iff_eq, decide_eq_true_eq, beq_eq_false_iff_ne, decide_eq_false_iff_not, bne_iff_ne, ne_eq, Bool.not_eq_true', Bool.not_eq_false', Int.not_le, Int.not_lt, bne_eq_false_iff_eq, Bool.or_eq_true, Bool.and_eq_true, Bool.or_eq_false_iff] at hc)))
            apply SeqP.eff
            · rfl
            intro KE hKE
            go_wp2_with fail
            refine (again_any g o (regM o q) (A, k, c) (agM o j b) b q.view wu (H10.out.1.2.1.keep HW.out) HK.out.1 rfl (H10.out.2.2.1.keep HW.out) (by show q.log.length ≤ 2000; have := HY.out.2.2.2; omega) ⟨rfl, HK.out.2.symm, rfl, rfl, j0, by rw [HN.out]; exact j1, HS.out⟩ rfl).mono ?_
            rintro e w12 ⟨hy1, -, hb12⟩
            obtain ⟨Ag, sg, rfl, hMg⟩ := hy1 (by show b ≤ q.log.length; rw [← HY.out.2.2.2]; exact HY.out.2.1)
            have hw12 := below_trans HW.out hb12 HW.out.size
            refine hKE _ _ (hTP' _ hw12) ?_
            clear hKE KE hy1 hb12
            go_wp2_with (first
              | (apply SeqP.skip; rfl; simp only [Act.put, List.setIfInBounds_toArray, List.set_cons_zero, List.set_cons_succ])
              | (apply SeqP.call; rfl; rfl; (intro w2 hw; have hw := hTP _ hw; (skip); go_simp; exact ⟨rfl, rfl⟩); (intro w2 hw; have hw := hTP _ hw; (skip); (first | fail)); simp only [Act.put, List.setIfInBounds_toArray, List.set_cons_zero, List.set_cons_succ])
              | (apply SeqP.pure; rfl; (intro w2 hw; have hw := hTP _ hw; (skip); go_simp; with_reducible rfl); simp only [Act.put, List.setIfInBounds_toArray, List.set_cons_zero, List.set_cons_succ])
              | (apply SeqP.split; rfl; rfl; all_goals (intro hc; simp only [hc]; try simp only [beq_iff_eq, decide_eq_true_eq, beq_eq_false_iff_ne, decide_eq_false_iff_not, bne_iff_ne, ne_eq, Bool.not_eq_true', Bool.not_eq_false', Int.not_le, Int.not_lt, bne_eq_false_iff_eq, Bool.or_eq_true, Bool.and_eq_true, Bool.or_eq_false_iff] at hc)))
            apply SeqP.nil
            refine hKP _ _ (hTP' _ (hw12)) ?_
            clear hKP hTP hTP'
            obtain ⟨b3, o3, z, rfl, hz, FA3, hLz⟩ := hMg.range (k := 0) (by simp)
            obtain rfl : layV o (regM o q) (agM o j b).m.from_ b q.view sg = z := Option.some.inj hz.out
            have hr3 := FA3 _ (Below.refl _ _)
            rw [Nat.zero_mul, Nat.add_zero] at hr3
            have HR3 := Lib.hid (And.intro hr3 hLz.out)
            clear FA3 hr3 hLz hMg hz
            go_wp2_with ((with_reducible refine at_list ?_); refine wpList_load_range_g 43 _ rfl rfl _ _ rfl _ _ HR3.out.1 Try.underlying43 rfl mail_info ?_)
            have hl1 := H10.out.2.2.1.keep hw12
            refine (lays_yes gr o (regM o q) A k c (j : Int) b q.view _ w12 (H10.out.1.2.2.1.keep hw12) HK.out.2 hl1 HR3.out.2 rfl HY.out.2.1).mono ?_
            rintro e w13 ⟨rfl, hb13⟩
            have hw13 := below_trans hw12 hb13 hw12.size
            clear hb13 hl1 hw12
            go_wp2_with fail
            go_roundg (n - (j + 1))
            case measure => have hkk := AA.out; omega
            case rel => exact ⟨j + 1, rfl, by omega, by rw [HY.out.2.2.1], by go_num, hw13⟩
        · obtain rfl : j = n := by omega
          have j1 : ¬ (j : Int) < (j : Int) := by omega
          have hnx : ∃ nx : Nat, (o.site + 1) % (j : Int) = nx ∧ nx < j ∧ (nx : Int) ≠ o.site := by
            by_cases h : o.site + 1 < (j : Int)
            · exact ⟨(o.site + 1).toNat, by rw [Int.emod_eq_of_lt (by omega) h]; omega, by omega, by omega⟩
            · have h2 : o.site + 1 = (j : Int) := by omega
              exact ⟨0, by rw [h2, Int.emod_self]; rfl, by omega, by omega⟩
          obtain ⟨nx, hnx, hnl, hns⟩ := hnx
          have hrem : Int.tmod (o.site + 1) (j : Int) = (nx : Int) := by rw [Int.tmod_eq_emod_of_nonneg (by omega), hnx]
          have sw : IntKind.i64.wrap (o.site + 1) = o.site + 1 := IntWalk.i64_in _ (by omega)
          have nw : IntKind.i64.wrap (nx : Int) = (nx : Int) := IntWalk.i64_in _ (by omega)
          have nz : ¬ (j : Int) = 0 := by omega
          have nz' : ((j : Int) == 0) = false := by rw [beq_eq_false_iff_ne]; exact nz
          have nz2 : ¬ j = 0 := by omega
          have nz3 : (j == 0) = false := by rw [beq_eq_false_iff_ne]; exact nz2
          obtain ⟨k1, hk1⟩ : ∃ k1 : Nat, k1 = k + 1 := ⟨_, rfl⟩
          have hk2 : (k : Int) + 1 = (k1 : Int) := by omega
          have kw : IntKind.i64.wrap (k1 : Int) = (k1 : Int) := IntWalk.i64_in _ (by omega)
          have HZ := Lib.hid (And.intro hk1 (And.intro hns hnl))
          have HW := Lib.hid hwr.drew
          clear hk1 hns hnx hkk hwr
          go_wp2_with fail
          refine wp_region_p ([(0, true), (1, true), (2, true), (3, true), (4, true), (5, true), (6, true), (7, true), (8, true), (9, true), (10, true), (11, true), (12, true), (13, true), (14, true), (15, true), (16, true), (17, true), (18, true), (19, true), (20, true), (21, true), (22, true), (23, true), (24, true), (25, false), (26, true)]) (fun w' => Below w10.heap.size w10 w') (by kernel_rfl) rfl (by kernel_rfl) (by kernel_rfl) (HW.out) rfl ?_
          intro KP RP TP hKP hTP hTP'
          simp only [List.append_eq, List.cons_append, List.nil_append, pick, nth]
          generalize wt.drew = wu at *
          clear r1 r2 r3
          go_wp2_with (first
            | (apply SeqP.skip; rfl; simp only [Act.put, List.setIfInBounds_toArray, List.set_cons_zero, List.set_cons_succ])
            | (apply SeqP.pure; rfl; (intro w2 hw; have hw := hTP _ hw; exact exec_load_blk 37 _ rfl _ rfl _ _ (H10.out.2.1.keep hw) _ Try.underlying37 rfl rg_info); simp only [Act.put, List.setIfInBounds_toArray, List.set_cons_zero, List.set_cons_succ])
            | (apply SeqP.call; rfl; rfl; (intro w2 hw; have hw := hTP _ hw; ((obtain ⟨r1, r2, r3⟩ := FR _ (H10.out.1.2.2.1.keep hw))); go_simp; exact ⟨rfl, rfl⟩); (intro w2 hw; have hw := hTP _ hw; ((obtain ⟨r1, r2, r3⟩ := FR _ (H10.out.1.2.2.1.keep hw))); (first | fail)); simp only [Act.put, List.setIfInBounds_toArray, List.set_cons_zero, List.set_cons_succ])
            | (apply SeqP.pure; rfl; (intro w2 hw; have hw := hTP _ hw; ((obtain ⟨r1, r2, r3⟩ := FR _ (H10.out.1.2.2.1.keep hw))); go_simp; with_reducible rfl); simp only [Act.put, List.setIfInBounds_toArray, List.set_cons_zero, List.set_cons_succ])
            | (apply SeqP.split; rfl; rfl; all_goals (intro hc; simp only [hc]; try simp only [beq_iff_eq, decide_eq_true_eq, beq_eq_false_iff_ne, decide_eq_false_iff_not, bne_iff_ne, ne_eq, Bool.not_eq_true', Bool.not_eq_false', Int.not_le, Int.not_lt, bne_eq_false_iff_eq, Bool.or_eq_true, Bool.and_eq_true, Bool.or_eq_false_iff] at hc)))
          apply SeqP.eff
          · rfl
          intro KE hKE
          go_wp2_with fail
          refine (again_any g o (regM o q) (A, k, c) (agM o nx k1) k1 q.view wu (H10.out.1.2.1.keep HW.out) HK.out.1 rfl (H10.out.2.2.1.keep HW.out) (by show q.log.length ≤ 2000; have := HD.out.2.2.2.2.2.2; omega) ⟨rfl, HK.out.2.symm, rfl, rfl, by show (0 : Int) ≤ (nx : Int); omega, by rw [HN.out]; show (nx : Int) < (j : Int); have := HZ.out.2.2; omega, HZ.out.2.1⟩ rfl).mono ?_
          rintro e w12 ⟨-, hy2, hb12⟩
          have hy2 := hy2 (by show ¬ k1 ≤ q.log.length; have := HD.out.2.2.2.2.2.2; have := HZ.out.1; omega)
          subst hy2
          have hw12 := below_trans HW.out hb12 HW.out.size
          refine hKE _ _ (hTP' _ hw12) ?_
          clear hKE KE hb12
          go_wp2_with (first
            | (apply SeqP.skip; rfl; simp only [Act.put, List.setIfInBounds_toArray, List.set_cons_zero, List.set_cons_succ])
            | (apply SeqP.call; rfl; rfl; (intro w2 hw; have hw := hTP _ hw; (skip); go_simp; exact ⟨rfl, rfl⟩); (intro w2 hw; have hw := hTP _ hw; (skip); (first | fail)); simp only [Act.put, List.setIfInBounds_toArray, List.set_cons_zero, List.set_cons_succ])
            | (apply SeqP.pure; rfl; (intro w2 hw; have hw := hTP _ hw; (skip); go_simp; with_reducible rfl); simp only [Act.put, List.setIfInBounds_toArray, List.set_cons_zero, List.set_cons_succ])
            | (apply SeqP.split; rfl; rfl; all_goals (intro hc; simp only [hc]; try simp only [beq_iff_eq, decide_eq_true_eq, beq_eq_false_iff_ne, decide_eq_false_iff_not, bne_iff_ne, ne_eq, Bool.not_eq_true', Bool.not_eq_false', Int.not_le, Int.not_lt, bne_eq_false_iff_eq, Bool.or_eq_true, Bool.and_eq_true, Bool.or_eq_false_iff] at hc)))
          apply SeqP.nil
          refine hKP _ _ (hTP' _ (hw12)) ?_
          clear hKP hTP hTP'
          have hw2 := below_trans H10.out.1.1 hw12 H10.out.1.1.size
          have HW2 := Lib.hid hw2
          clear hw12 hw2
          go_wp2_with fail
          refine (lives20_any _).mono ?_
          rintro e w13 ⟨rfl, hb⟩
          have hw := below_trans HW2.out hb HW2.out.size
          clear hb
          go_wp2_with fail
          go_ret
          exact ⟨rfl, hw⟩
end Go.Proofs.Ytdphfhenjndkkaa

set_option linter.unusedSimpArgs false
set_option linter.unusedVariables false
set_option maxRecDepth 100000
namespace Go.Sq
open Go Go.ChangeShapes Go.WideShapes Go.RowKit Go.Deep
section
variable {H : Type} {enc : TypeId × Value → H} {P : Program} {w : World} {base : Nat} {spare : Nat → Bool} {held : Bool}
theorem open_rows_in {k : Nat} {t e : TypeId} {C : Nat} {v : Value} {y : DataW H × List MemPlace} (ht : P.underlying t = some (.slice e))
    (hC : P.cellsOf e = C) (hpos : 0 < C) (h : DataW.trod enc P w base spare held k t [v] = some y) :
    ∃ (a : Option Addr) (len cap : Nat), v = .slice a len cap ∧ len ≤ cap ∧ cap ≤ maxLen ∧ (0 < len → ∃ b off, a = some ⟨b, off, none⟩ ∧ b < w.heap.size ∧ ∀ i, i < len →
      ∃ (cs : List Value) (n : Nat) (y : DataW H × List MemPlace), cs.length = C ∧ (∀ k, k < C → w.cell? ⟨b, off + i * C + k, none⟩ = cs[k]?) ∧ DataW.trod enc P w base spare held n e cs = some y) := by
  rcases open_slice ht h with ⟨hcs, _⟩ | ⟨a, l, c, m, n, D, Pl, hcs, _, hl, hm, hmm, _, hi⟩
  · cases hcs
    exact ⟨none, 0, 0, rfl, Nat.le_refl _, by simp [maxLen], fun h => absurd h (by omega)⟩
  · cases hcs
    refine ⟨some a, l, c, rfl, hl, hm, fun hlen => ?_⟩
    obtain ⟨b, off, rfl, hbl⟩ : ∃ b off, a = ⟨b, off, none⟩ ∧ b < w.heap.size := by
      obtain ⟨cs', hc, _⟩ := hi 0 (by rw [hmm]; split <;> omega)
      rw [hC] at hc
      obtain ⟨_, hcl, hat⟩ := World.cells?_some hc
      have h0 := hat 0 hpos
      rw [List.getElem?_eq_getElem (show 0 < cs'.length by omega)] at h0
      have hsp : a.spot = none := by simpa [Addr.add] using World.cell?_spot h0
      have hbl := World.block_lt_of_cell? _ _ h0
      rw [add_block, add_block] at hbl
      obtain ⟨b, off, spot⟩ := a
      obtain rfl : spot = none := hsp
      exact ⟨b, off, rfl, hbl⟩
    refine ⟨b, off, rfl, hbl, fun i hil => ?_⟩
    obtain ⟨cs', hc, ht'⟩ := hi i (by rw [hmm]; split <;> omega)
    rw [hC] at hc
    obtain ⟨_, hcl, hat⟩ := World.cells?_some hc
    refine ⟨cs', n, _, hcl, fun k hk => ?_, ht'⟩
    have h3 := hat k hk
    rw [add_none, add_none] at h3
    exact h3
end
end Go.Sq

set_option linter.unusedSimpArgs false
set_option linter.unusedVariables false
set_option maxRecDepth 100000
namespace Go.Proofs.Ytdphfhenjndkkaa
open Go Go.ChangeShapes Go.WideShapes Go.RowKit Go.Deep Go.Sq Go.Wd Go.Arch
section
variable {H : Type} {enc : TypeId × Value → H} {w : World} {base : Nat} {spare : Nat → Bool} {held : Bool}

theorem open_log {k : Nat} {v : Value} {y : DataW H × List MemPlace} (h : DataW.trod enc Try.prog w base spare held k 35 [v] = some y) :
    ∃ (sl : SlcE) (es : List Ent), v = .slice sl.1 sl.2.1 sl.2.2 ∧ LogAt w w.heap.size sl es ∧ ∀ e ∈ es, wfEnt e := by
  obtain ⟨A, len, cap, rfl, h1, h2, h3⟩ := open_rows_in Try.underlying35 (C := 6) (by kernel_rfl) (by omega) h
  have h2' : cap ≤ 9223372036854775807 := by simp only [maxLen] at h2; omega
  rcases Nat.eq_zero_or_pos len with h0 | h0
  · subst h0
    exact ⟨(A, 0, cap), [], rfl, ⟨rfl, h1, h2', Ents.nil⟩, by simp⟩
  · obtain ⟨b, off, rfl, hb, hrow⟩ := h3 h0
    obtain ⟨l, hl, hp⟩ := list_of (p := fun i e => EntAt w b (off + i * 6) e ∧ wfEnt e) len (fun i hi => by
      obtain ⟨cs, n, y, hcl, hcell, ht⟩ := hrow i hi
      obtain ⟨e, rfl, hw⟩ := open_ent ht
      exact ⟨e, ⟨hcell 0 (by omega), hcell 1 (by omega), hcell 2 (by omega), hcell 3 (by omega), hcell 4 (by omega), hcell 5 (by omega)⟩, hw⟩)
    subst hl
    refine ⟨(some ⟨b, off, none⟩, l.length, cap), l, rfl, ⟨rfl, h1, h2', fun _ => ⟨b, off, rfl, hb, fun i e he => (hp i e he).1⟩⟩, fun e he => ?_⟩
    obtain ⟨i, hi⟩ := List.getElem?_of_mem he
    exact (hp i e hi).2
theorem open_any_slice {k : Nat} {t e : TypeId} {v : Value} {y : DataW H × List MemPlace} (ht : Try.prog.underlying t = some (.slice e)) (h : DataW.trod enc Try.prog w base spare held k t [v] = some y) : ∃ sl : SlcE, v = .slice sl.1 sl.2.1 sl.2.2 := by
  rcases open_slice ht h with ⟨hcs, _⟩ | ⟨a, l, c, m, n, D, Pl, hcs, _⟩
  · cases hcs
    exact ⟨(none, 0, 0), rfl⟩
  · cases hcs
    exact ⟨(some a, l, c), rfl⟩
theorem rec_fields {fs : Array Field} (hs : Try.prog.underlying 53 = some (.struct fs)) {n : Nat} {cs : List Value} (hl : cs.length = fs.size)
    (hf : ∀ (j : Nat) (f : Field), fs[j]? = some f → ∃ (c : Value) (y : DataW H × List MemPlace), cs[j]? = some c ∧ DataW.trod enc Try.prog w base spare held n f.type [c] = some y) :
    ∃ x : RecV, cs = rcv x ∧ LogAt w w.heap.size x.es x.ents ∧ ∀ e ∈ x.ents, wfEnt e := by
  rw [Try.underlying53] at hs
  cases hs
  obtain ⟨c0, c1, c2, c3, c4, c5, c6, c7, rfl⟩ := len8 hl
  obtain ⟨_, _, e0, t0⟩ := hf 0 _ rfl
  obtain ⟨_, _, e1, t1⟩ := hf 1 _ rfl
  obtain ⟨_, _, e2, t2⟩ := hf 2 _ rfl
  obtain ⟨_, _, e3, t3⟩ := hf 3 _ rfl
  obtain ⟨_, _, e4, t4⟩ := hf 4 _ rfl
  obtain ⟨_, _, e5, t5⟩ := hf 5 _ rfl
  obtain ⟨_, _, e6, t6⟩ := hf 6 _ rfl
  obtain ⟨_, _, e7, t7⟩ := hf 7 _ rfl
  cases e0; cases e1; cases e2; cases e3; cases e4; cases e5; cases e6; cases e7
  obtain ⟨z0, q0, _, _⟩ := DataW.trod_int Try.underlying3 t0
  obtain ⟨z1, q1, _, _⟩ := DataW.trod_int Try.underlying3 t1
  obtain ⟨z2, q2, _, _⟩ := DataW.trod_int Try.underlying3 t2
  obtain ⟨z3, q3, _, _⟩ := DataW.trod_int Try.underlying3 t3
  obtain ⟨z4, q4, _, _⟩ := DataW.trod_int Try.underlying3 t4
  obtain ⟨z5, q5, _, _⟩ := DataW.trod_int Try.underlying3 t5
  cases q0; cases q1; cases q2; cases q3; cases q4; cases q5
  obtain ⟨sl, es, rfl, hE, hw⟩ := open_log t6
  obtain ⟨fs, rfl⟩ := open_any_slice Try.underlying51 t7
  exact ⟨⟨z0, z1, z2, z3, z4, z5, sl, es, fs⟩, rfl, hE, hw⟩
theorem reg_fields {fs : Array Field} (hs : Try.prog.underlying 37 = some (.struct fs)) {n : Nat} {cs : List Value} (hl : cs.length = fs.size)
    (hf : ∀ (j : Nat) (f : Field), fs[j]? = some f → ∃ (c : Value) (y : DataW H × List MemPlace), cs[j]? = some c ∧ DataW.trod enc Try.prog w base spare held n f.type [c] = some y) :
    ∃ (r : RegS) (sl : SlcE), cs = rgv r sl ∧ LogAt w w.heap.size sl r.log ∧ ∀ e ∈ r.log, wfEnt e := by
  rw [Try.underlying37] at hs
  cases hs
  obtain ⟨c0, c1, c2, c3, rfl⟩ := len4 hl
  obtain ⟨_, _, e0, t0⟩ := hf 0 _ rfl
  obtain ⟨_, _, e1, t1⟩ := hf 1 _ rfl
  obtain ⟨_, _, e2, t2⟩ := hf 2 _ rfl
  obtain ⟨_, _, e3, t3⟩ := hf 3 _ rfl
  cases e0; cases e1; cases e2; cases e3
  obtain ⟨z0, q0, _, _⟩ := DataW.trod_int Try.underlying3 t0
  obtain ⟨z1, q1, _, _⟩ := DataW.trod_int Try.underlying3 t1
  obtain ⟨z3, q3, _, _⟩ := DataW.trod_int Try.underlying3 t3
  cases q0; cases q1; cases q3
  obtain ⟨sl, es, rfl, hE, hw⟩ := open_log t2
  exact ⟨⟨z0, z1, es, z3⟩, sl, rfl, hE, hw⟩
theorem open_rec_cells {n : Nat} {cs : List Value} {y : DataW H × List MemPlace} (h : DataW.trod enc Try.prog w base spare held n 53 cs = some y) : ∃ x : RecV, cs = rcv x ∧ LogAt w w.heap.size x.es x.ents ∧ ∀ e ∈ x.ents, wfEnt e := by
  obtain ⟨hl, m, hf⟩ := cells_fields Try.underlying53 (by kernel_rfl) (by kernel_rfl) h
  exact rec_fields Try.underlying53 hl hf
theorem open_rec {r : Reach} {b0 : Nat} {v : Value} {d : DataW H} {p : List MemPlace} (hv : Value.okWide Try.prog w r b0 53 v) (h : DataW.Trod enc Try.prog w base spare held 53 v d p) :
    ∃ x : RecV, v = .agg (rcv x).toArray ∧ LogAt w w.heap.size x.es x.ents ∧ ∀ e ∈ x.ents, wfEnt e := by
  obtain ⟨l, m, rfl, hl, hf⟩ := open_fields Try.underlying53 (by kernel_rfl) (by kernel_rfl) hv h
  obtain ⟨x, rfl, hx⟩ := rec_fields Try.underlying53 hl hf
  exact ⟨x, rfl, hx⟩
theorem open_register {r : Reach} {b0 : Nat} {v : Value} {d : DataW H} {p : List MemPlace} (hv : Value.okWide Try.prog w r b0 37 v) (h : DataW.Trod enc Try.prog w base spare held 37 v d p) :
    ∃ (r : RegS) (sl : SlcE), v = .agg (rgv r sl).toArray ∧ LogAt w w.heap.size sl r.log ∧ ∀ e ∈ r.log, wfEnt e := by
  obtain ⟨l, m, rfl, hl, hf⟩ := open_fields Try.underlying37 (by kernel_rfl) (by kernel_rfl) hv h
  obtain ⟨x, sl, rfl, hx⟩ := reg_fields Try.underlying37 hl hf
  exact ⟨x, sl, rfl, hx⟩
theorem open_recs {r : Reach} {b0 : Nat} {v : Value} {d : DataW H} {p : List MemPlace} (hv : Value.okWide Try.prog w r b0 44 v) (h : DataW.Trod enc Try.prog w base spare held 44 v d p) :
    ∃ (A : Option Addr) (l : List RecV) (c : Nat), v = .slice A l.length c ∧ l.length ≤ c ∧ c ≤ 9223372036854775807 ∧ Recs w w.heap.size A l := by
  obtain ⟨A, len, cap, rfl, h1, h2, h3⟩ := open_rows_any Try.underlying44 (C := 8) (by kernel_rfl) (by omega) hv h
  have h2' : cap ≤ 9223372036854775807 := by simp only [maxLen] at h2; omega
  rcases Nat.eq_zero_or_pos len with h0 | h0
  · subst h0
    exact ⟨A, [], cap, rfl, h1, h2', by simp, fun h => absurd h (by simp)⟩
  · obtain ⟨b, off, rfl, hb, hrow⟩ := h3 h0
    obtain ⟨l, hl, hp⟩ := list_of (p := fun i e => RecAt w b (off + i * 8) e ∧ LogAt w w.heap.size e.es e.ents) len (fun i hi => by
      obtain ⟨cs, n, y, hcl, hcell, ht⟩ := hrow i hi
      obtain ⟨x, rfl, hE, _⟩ := open_rec_cells ht
      exact ⟨x, ⟨hcell 0 (by omega), hcell 1 (by omega), hcell 2 (by omega), hcell 3 (by omega), hcell 4 (by omega), hcell 5 (by omega), hcell 6 (by omega), hcell 7 (by omega)⟩, hE⟩)
    subst hl
    refine ⟨_, l, cap, rfl, h1, h2', fun x hx => ?_, fun _ => ⟨b, off, rfl, hb, fun i e he => (hp i e he).1⟩⟩
    obtain ⟨i, hi⟩ := List.getElem?_of_mem hx
    exact (hp i x hi).2
end
end Go.Proofs.Ytdphfhenjndkkaa

set_option linter.unusedSimpArgs false
set_option linter.unusedVariables false
set_option maxRecDepth 100000
namespace Go.Sq
open Go Go.ChangeShapes Go.WideShapes Go.RowKit Go.Deep
section
variable {H : Type} {enc : TypeId × Value → H} {P : Program} {w : World} {base : Nat} {spare : Nat → Bool} {held : Bool}

theorem ints_of {n k : Nat} {t : TypeId} {fs : Array Field} {l : List Value} {x : DataW H × List MemPlace} (hs : P.underlying t = some (.struct fs)) (hone : oneCellFields P fs = true)
    (hC : P.cellsOf t = fs.size) (h5 : fs.size = k) (hty : ∀ (j : Nat) (f : Field), fs[j]? = some f → P.underlying f.type = some (.int .i64)) (h : DataW.trod enc P w base spare held n t l = some x) :
    ∃ zs : List Int, zs.length = k ∧ l = zs.map (.int .i64) ∧ ∀ z ∈ zs, (Lit.int .i64 z).wf = true := by
  obtain ⟨hl, m, hf⟩ := cells_fields hs hone hC h
  rw [h5] at hl
  obtain ⟨zs, hz, hp⟩ := list_of (p := fun i z => l[i]? = some (.int .i64 z) ∧ (Lit.int .i64 z).wf = true) k (fun j hj => by
    have hj' : j < fs.size := by omega
    obtain ⟨c', y, h1, h2⟩ := hf j _ (Array.getElem?_eq_getElem hj')
    obtain ⟨z, hz, _, hw⟩ := DataW.trod_int (hty j _ (Array.getElem?_eq_getElem hj')) h2
    obtain rfl : c' = .int .i64 z := by simpa using hz
    exact ⟨z, h1, hw⟩)
  refine ⟨zs, hz, List.ext_getElem? (fun i => ?_), fun z hzm => ?_⟩
  · rw [List.getElem?_map]
    by_cases hi : i < k
    · have := (hp i zs[i] (List.getElem?_eq_getElem (by omega))).1
      rw [this, List.getElem?_eq_getElem (by omega)]
      rfl
    · rw [List.getElem?_eq_none (by omega), List.getElem?_eq_none (by omega)]
      rfl
  · obtain ⟨i, hi, rfl⟩ := List.mem_iff_getElem.1 hzm
    exact (hp i _ (List.getElem?_eq_getElem hi)).2
end
end Go.Sq

set_option linter.unusedSimpArgs false
set_option linter.unusedVariables false
set_option maxRecDepth 100000
namespace Go.Sq
open Go Go.ChangeShapes Go.WideShapes Go.RowKit Go.Deep
section
variable {H : Type} {enc : TypeId × Value → H} {P : Program} {w : World} {base : Nat} {spare : Nat → Bool} {held : Bool} {α : Type}

theorem open_sl_in (R : Gr.Enc P α) {q : α → Prop} {k : Nat} {v : Value} {y : DataW H × List MemPlace} (hC : P.cellsOf R.elem = R.size)
    (hdec : ∀ (n : Nat) (cs : List Value) (y : DataW H × List MemPlace), DataW.trod enc P w base spare held n R.elem cs = some y → ∃ a, cs = R.enc a ∧ q a)
    (h : DataW.trod enc P w base spare held k R.slice [v] = some y) :
    ∃ (A : Option Addr) (l : List α) (c : Nat), v = .slice A l.length c ∧ l.length ≤ c ∧ c ≤ 9223372036854775807 ∧ Gr.Sl R w w.heap.size A l ∧ (∀ a ∈ l, q a) ∧ (A = none → c = 0) := by
  obtain ⟨A, len, cap, rfl, h1, h2, h3⟩ := open_rows_in R.und hC R.pos h
  have h2' : cap ≤ 9223372036854775807 := by simp only [maxLen] at h2; omega
  have hnil : A = none → cap = 0 := fun e => by
    subst e
    rcases open_slice R.und h with ⟨hcs, _⟩ | ⟨a, l, c, m, n, D, Pl, hcs, _⟩
    · injection hcs with hcs
      injection hcs
    · injection hcs with hcs
      injection hcs with h
      cases h
  rcases Nat.eq_zero_or_pos len with h0 | h0
  · subst h0
    exact ⟨A, [], cap, rfl, h1, h2', Gr.Sl.nil, by simp, hnil⟩
  · obtain ⟨b, off, rfl, hb, hrow⟩ := h3 h0
    obtain ⟨l, hl, hp⟩ := list_of (p := fun i e => Gr.At R w b (off + i * R.size) e ∧ q e) len (fun i hi => by
      obtain ⟨cs, n, y, hcl, hcell, ht⟩ := hrow i hi
      obtain ⟨a, rfl, hq⟩ := hdec n cs y ht
      exact ⟨a, fun k hk => hcell k hk, hq⟩)
    subst hl
    refine ⟨some ⟨b, off, none⟩, l, cap, rfl, h1, h2', fun _ => ⟨b, off, rfl, hb, fun i e he => (hp i e he).1⟩, fun a ha => ?_, hnil⟩
    obtain ⟨i, hi⟩ := List.getElem?_of_mem ha
    exact (hp i a hi).2
theorem open_sl (R : Gr.Enc P α) {q : α → Prop} {r : Reach} {b0 : Nat} {v : Value} {d : DataW H} {p : List MemPlace} (hC : P.cellsOf R.elem = R.size)
    (hdec : ∀ (n : Nat) (cs : List Value) (y : DataW H × List MemPlace), DataW.trod enc P w base spare held n R.elem cs = some y → ∃ a, cs = R.enc a ∧ q a)
    (hv : Value.okWide P w r b0 R.slice v) (h : DataW.Trod enc P w base spare held R.slice v d p) :
    ∃ (A : Option Addr) (l : List α) (c : Nat), v = .slice A l.length c ∧ l.length ≤ c ∧ c ≤ 9223372036854775807 ∧ Gr.Sl R w w.heap.size A l ∧ (∀ a ∈ l, q a) ∧ (A = none → c = 0) := by
  obtain ⟨a0, len, cap, rfl⟩ := okWide_slice R.und hv
  obtain ⟨fuel, hf⟩ := h
  exact open_sl_in R hC hdec (by simpa [Value.cells] using hf)
end
end Go.Sq

set_option linter.unusedSimpArgs false
set_option linter.unusedVariables false
set_option maxRecDepth 100000
namespace Go.Proofs.Ytdphfhenjndkkaa
open Go Go.ChangeShapes Go.WideShapes Go.RowKit Go.Deep Go.Sq Go.Wd Go.Arch
section
variable {H : Type} {enc : TypeId × Value → H} {w : World} {base : Nat} {spare : Nat → Bool} {held : Bool}

theorem len18 {α : Type} {l : List α} (h : l.length = 18) : ∃ a0 a1 a2 a3 a4 a5 a6 a7 a8 a9 b0 b1 b2 b3 b4 b5 b6 b7, l = [a0, a1, a2, a3, a4, a5, a6, a7, a8, a9, b0, b1, b2, b3, b4, b5, b6, b7] := by
  match l, h with
  | [a0, a1, a2, a3, a4, a5, a6, a7, a8, a9, b0, b1, b2, b3, b4, b5, b6, b7], _ => exact ⟨a0, a1, a2, a3, a4, a5, a6, a7, a8, a9, b0, b1, b2, b3, b4, b5, b6, b7, rfl⟩

set_option maxHeartbeats 2000000 in
theorem open_mail {n : Nat} {cs : List Value} {y : DataW H × List MemPlace} (h : DataW.trod enc Try.prog w base spare held n 43 cs = some y) : ∃ x : MailV, cs = mailv x ∧ LogAt w w.heap.size x.es x.m.ents := by
  have hC : Try.prog.cellsOf 43 = 18 := by kernel_rfl
  have hCi : Try.prog.cellsOf 3 = 1 := by kernel_rfl
  have hCe : Try.prog.cellsOf 35 = 1 := by kernel_rfl
  have hCo : Try.prog.cellsOf 39 = 5 := by kernel_rfl
  have hCa : Try.prog.cellsOf 41 = 3 := by kernel_rfl
  obtain ⟨xs, m, _, _, hl, hlen, hg⟩ := DataW.trod_struct Try.underlying43 h
  rw [hC] at hl
  obtain ⟨c0, c1, c2, c3, c4, c5, c6, c7, c8, c9, b0, b1, b2, b3, b4, b5, b6, b7, rfl⟩ := len18 hl
  have hx : xs.length = 12 := hlen
  have h0 := hg 0 _ rfl
  have h1 := hg 1 _ rfl
  have h2 := hg 2 _ rfl
  have h3 := hg 3 _ rfl
  have h4 := hg 4 _ rfl
  have h5 := hg 5 _ rfl
  have h6 := hg 6 _ rfl
  have h7 := hg 7 _ rfl
  have h8 := hg 8 _ rfl
  have h9 := hg 9 _ rfl
  have h10 := hg 10 _ rfl
  have h11 := hg 11 _ rfl
  simp only [List.getElem_toArray, List.getElem_cons_zero, List.getElem_cons_succ] at h0 h1 h2 h3 h4 h5 h6 h7 h8 h9 h10 h11
  rw [hCi] at h0
  rw [hCi] at h1
  rw [hCi] at h2
  rw [hCi] at h3
  rw [hCi] at h4
  rw [hCi] at h5
  rw [hCi] at h6
  rw [hCi] at h7
  rw [hCi] at h8
  rw [hCe] at h9
  rw [hCo] at h10
  rw [hCa] at h11
  simp only [List.drop_zero, List.take_succ_cons, List.take_zero, List.drop_succ_cons] at h0 h1 h2 h3 h4 h5 h6 h7 h8 h9 h10 h11
  rw [List.getElem?_eq_getElem (show 0 < xs.length by omega)] at h0
  rw [List.getElem?_eq_getElem (show 1 < xs.length by omega)] at h1
  rw [List.getElem?_eq_getElem (show 2 < xs.length by omega)] at h2
  rw [List.getElem?_eq_getElem (show 3 < xs.length by omega)] at h3
  rw [List.getElem?_eq_getElem (show 4 < xs.length by omega)] at h4
  rw [List.getElem?_eq_getElem (show 5 < xs.length by omega)] at h5
  rw [List.getElem?_eq_getElem (show 6 < xs.length by omega)] at h6
  rw [List.getElem?_eq_getElem (show 7 < xs.length by omega)] at h7
  rw [List.getElem?_eq_getElem (show 8 < xs.length by omega)] at h8
  rw [List.getElem?_eq_getElem (show 9 < xs.length by omega)] at h9
  rw [List.getElem?_eq_getElem (show 10 < xs.length by omega)] at h10
  rw [List.getElem?_eq_getElem (show 11 < xs.length by omega)] at h11
  obtain ⟨z0, q0, _, _⟩ := DataW.trod_int Try.underlying3 h0
  obtain ⟨z1, q1, _, _⟩ := DataW.trod_int Try.underlying3 h1
  obtain ⟨z2, q2, _, _⟩ := DataW.trod_int Try.underlying3 h2
  obtain ⟨z3, q3, _, _⟩ := DataW.trod_int Try.underlying3 h3
  obtain ⟨z4, q4, _, _⟩ := DataW.trod_int Try.underlying3 h4
  obtain ⟨z5, q5, _, _⟩ := DataW.trod_int Try.underlying3 h5
  obtain ⟨z6, q6, _, _⟩ := DataW.trod_int Try.underlying3 h6
  obtain ⟨z7, q7, _, _⟩ := DataW.trod_int Try.underlying3 h7
  obtain ⟨z8, q8, _, _⟩ := DataW.trod_int Try.underlying3 h8
  cases q0; cases q1; cases q2; cases q3; cases q4; cases q5; cases q6; cases q7; cases q8
  obtain ⟨sl, es, rfl, hE, _⟩ := open_log h9
  obtain ⟨a, b, c, d, e, h5, _⟩ := five_of (ti := 3) Try.underlying39 (by kernel_rfl) (by kernel_rfl) rfl (by
    intro j f hf
    have hj : j < 5 := (Array.getElem?_eq_some_iff.1 hf).1
    obtain rfl | rfl | rfl | rfl | rfl : j = 0 ∨ j = 1 ∨ j = 2 ∨ j = 3 ∨ j = 4 := by omega
    all_goals
      cases hf
      exact Try.underlying3) h10
  cases h5
  obtain ⟨zs, hz, h6, _⟩ := ints_of (k := 3) Try.underlying41 (by kernel_rfl) (by kernel_rfl) rfl (by
    intro j f hf
    have hj : j < 3 := (Array.getElem?_eq_some_iff.1 hf).1
    obtain rfl | rfl | rfl : j = 0 ∨ j = 1 ∨ j = 2 := by omega
    all_goals
      cases hf
      exact Try.underlying3) h11
  obtain ⟨u0, u1, u2, rfl⟩ := len3 hz
  simp only [List.map_cons, List.map_nil] at h6
  cases h6
  exact ⟨⟨⟨z0, z1, z2, z3, z4, z5, z6, z7, z8, es⟩, sl, (a, b, c, d, e), (u0, u1, u2)⟩, rfl, hE⟩

/-- A slice of mail that comes in. -/
theorem open_mails {r : Reach} {b0 : Nat} {v : Value} {d : DataW H} {p : List MemPlace} (hv : Value.okWide Try.prog w r b0 22 v) (h : DataW.Trod enc Try.prog w base spare held 22 v d p) :
    ∃ (A : Option Addr) (l : List MailV) (c : Nat), v = .slice A l.length c ∧ l.length ≤ c ∧ c ≤ 9223372036854775807 ∧ Mails w w.heap.size A l := by
  obtain ⟨A, l, c, rfl, h1, h2, h3, h4, _⟩ := open_sl mailE (q := fun x => LogAt w w.heap.size x.es x.m.ents) (by kernel_rfl) (fun n cs y h => open_mail h) hv h
  exact ⟨A, l, c, rfl, h1, h2, h3, h4⟩
/-- One piece of mail that comes in. -/
theorem open_mail_one {r : Reach} {b0 : Nat} {v : Value} {d : DataW H} {p : List MemPlace} (hv : Value.okWide Try.prog w r b0 43 v) (h : DataW.Trod enc Try.prog w base spare held 43 v d p) :
    ∃ x : MailV, v = .agg (mailv x).toArray ∧ LogAt w w.heap.size x.es x.m.ents := by
  obtain ⟨⟨l⟩, rfl, hsz⟩ := okWide_struct Try.underlying43 hv
  obtain ⟨fuel, hf⟩ := h
  obtain ⟨x, he, hw⟩ := open_mail (cs := l) hf
  subst he
  exact ⟨x, rfl, hw⟩
end
end Go.Proofs.Ytdphfhenjndkkaa

set_option linter.unusedSimpArgs false
set_option linter.unusedVariables false
set_option maxRecDepth 100000
namespace Go.Proofs.Ytdphfhenjndkkaa
open Go Go.ChangeShapes Go.WideShapes Go.RowKit Go.Deep Go.Sq Go.Wd
section
variable {H : Type} {enc : TypeId × Value → H} {w : World} {base : Nat} {spare : Nat → Bool} {held : Bool}
theorem open_u8s {k : Nat} {v : Value} {y : DataW H × List MemPlace} (h : DataW.trod enc Try.prog w base spare held k 23 [v] = some y) :
    ∃ (A : Option Addr) (l : List Int) (c : Nat), v = .slice A l.length c ∧ l.length ≤ c ∧ c ≤ 9223372036854775807 ∧ Nums w w.heap.size A .u8 l ∧ ∀ x ∈ l, (Lit.int .u8 x).wf = true := by
  obtain ⟨A, len, cap, rfl, h1, h2, h3⟩ := open_rows_in Try.underlying23 (C := 1) (by kernel_rfl) (by omega) h
  have h2' : cap ≤ 9223372036854775807 := by simp only [maxLen] at h2; omega
  rcases Nat.eq_zero_or_pos len with h0 | h0
  · subst h0
    exact ⟨A, [], cap, rfl, h1, h2', fun h => absurd h (by simp), by simp⟩
  · obtain ⟨b, off, rfl, hb, hrow⟩ := h3 h0
    obtain ⟨l, hl, hp⟩ := list_of (p := fun i x => w.cell? ⟨b, off + i, none⟩ = some (.int .u8 x) ∧ (Lit.int .u8 x).wf = true) len (fun i hi => by
      obtain ⟨cs, n, y, hcl, hcell, ht⟩ := hrow i hi
      obtain ⟨z, hz, _, hw⟩ := DataW.trod_int Try.underlying5 ht
      refine ⟨z, ?_, hw⟩
      have := hcell 0 (by omega)
      rw [hz] at this
      simpa using this)
    subst hl
    refine ⟨_, l, cap, rfl, h1, h2', fun _ => ⟨b, off, rfl, hb, fun i e he => (hp i e he).1⟩, fun e he => ?_⟩
    obtain ⟨i, hi⟩ := List.getElem?_of_mem he
    exact (hp i e hi).2
end
end Go.Proofs.Ytdphfhenjndkkaa

set_option linter.unusedSimpArgs false
set_option linter.unusedVariables false
set_option maxRecDepth 100000
namespace Go.Proofs.Ytdphfhenjndkkaa
open Go Go.ChangeShapes Go.WideShapes Go.RowKit Go.Deep Go.Sq Go.Wd Go.Arch
section
variable {H : Type} {enc : TypeId × Value → H} {w : World} {base : Nat} {spare : Nat → Bool} {held : Bool}
theorem open_beg20 {r : Reach} {b0 : Nat} {v : Value} {d : DataW H} {p : List MemPlace} (hv : Value.okWide Try.prog w r b0 68 v) (h : DataW.Trod enc Try.prog w base spare held 68 v d p) :
    ∃ (x : MkS) (A : Option Addr) (c : Nat), v = .agg (begv20 x (A, x.who.length, c)).toArray ∧ FineX x ∧ Nums w w.heap.size A .u8 x.who ∧ x.who.length ≤ 9223372036854775807 := by
  obtain ⟨l, m, rfl, hl, hf⟩ := open_fields Try.underlying68 (by kernel_rfl) (by kernel_rfl) hv h
  obtain ⟨c0, c1, c2, c3, rfl⟩ := len4 hl
  obtain ⟨_, _, e0, t0⟩ := hf 0 _ rfl
  obtain ⟨_, _, e1, t1⟩ := hf 1 _ rfl
  obtain ⟨_, _, e2, t2⟩ := hf 2 _ rfl
  obtain ⟨_, _, e3, t3⟩ := hf 3 _ rfl
  cases e0; cases e1; cases e2; cases e3
  obtain ⟨z0, q0, _, f0⟩ := DataW.trod_int Try.underlying5 t0
  obtain ⟨z1, q1, _, f1⟩ := DataW.trod_int Try.underlying5 t1
  obtain ⟨z2, q2, _, f2⟩ := DataW.trod_int Try.underlying66 t2
  cases q0; cases q1; cases q2
  obtain ⟨A, ks, c, rfl, h1, h2, h3, h4⟩ := open_u8s t3
  exact ⟨⟨z0, z1, z2, ks⟩, A, c, rfl, ⟨wf_u8 f0, wf_u8 f1, wf_u16 f2, fun k hk => wf_u8 (h4 k hk)⟩, h3, Nat.le_trans h1 h2⟩
end
end Go.Proofs.Ytdphfhenjndkkaa
