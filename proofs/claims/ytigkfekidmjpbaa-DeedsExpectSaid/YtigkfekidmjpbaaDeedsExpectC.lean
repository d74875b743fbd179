/-
  The walks over the statement 'DeedsExpect'.
-/
import Derived.Test.YtigkfekidmjpbaaProg
import Derived.Test.YtigkfekidmjpbaaSeq
import Derived.WalkKit
import Derived.WalkSpells
import Derived.WalkLawsBesides
import Derived.RowKit3
import Derived.Lib.Hide
import Derived.Test.YtigkfekidmjpbaaDeedsExpectB
import Derived.Deep.RegionHeld3
import Derived.Deep.DrawnRows
import Derived.Deep.DeepCutAuto
import Derived.Test.YtigkfekidmjpbaaSeqF
set_option linter.unusedSimpArgs false
set_option linter.unusedVariables false
namespace Go.Proofs.Ytigkfekidmjpbaa
open Go.RowKit Go.Sq Go.Arch


attribute [local go_sem ↓] Go.wp_at_zero Go.wp_at_succ
theorem expect_mk {A B : Prop} (ha : A) (hb : A → B) : A ∧ B := ⟨ha, hb ha⟩
theorem below_cells {W w1 : World} (hb : Below W.heap.size W w1) : (∀ b o, b < W.heap.size → w1.cell? ⟨b, o, none⟩ = W.cell? ⟨b, o, none⟩) ∧ (∀ b o, b < W.heap.size → w1.frozen? ⟨b, o, none⟩ = W.frozen? ⟨b, o, none⟩) :=
  ⟨fun b o h => hb.cell (p := ⟨b, o, none⟩) h, fun b o h => hb.frozen (p := ⟨b, o, none⟩) h⟩

set_option maxRecDepth 100000 in
set_option maxHeartbeats 16000000 in
theorem expect_B2 (t s v x0 x1 x2 x3 x4 y0 y1 y2 y3 y4 : Int) (c : Bool) (w : World) (hm : mayS ⟨t, c, s, v⟩ = true) (ca va aa : Int) (f1 : (ca != 1) = true) (f2 : (ca == 1) = false) (f3 : (ca != 2) = true)
    (HA : Hid (∀ w, Calls Try.prog 24 #[.agg #[.int .i64 t, .bool c, .int .i64 s, .int .i64 v], .agg #[.int .i64 x0, .int .i64 x1, .int .i64 v, .int .i64 x3, .int .i64 x4]] w fun e w' => e = .returned (.agg #[.int .i64 ca, .int .i64 va, .slice none 0 0]) ∧ Below w.heap.size w w'))
    (HB : Hid (∀ w, Calls Try.prog 24 #[.agg #[.int .i64 t, .bool c, .int .i64 s, .int .i64 v], .agg #[.int .i64 y0, .int .i64 y1, .int .i64 v, .int .i64 y3, .int .i64 y4]] w fun e w' => OutNew w w' (v + 1) y3 aa e))
    (HC : Hid (∀ w, Calls Try.prog 24 #[.agg #[.int .i64 t, .bool c, .int .i64 s, .int .i64 v], .agg #[.int .i64 y0, .int .i64 y1, .int .i64 (-1), .int .i64 y3, .int .i64 y4]] w fun e w' => OutAny w w' e)) :
    Calls Try.prog 11 #[.agg #[.int .i64 t, .bool c, .int .i64 s, .int .i64 v], .agg #[.int .i64 x0, .int .i64 x1, .int .i64 x2, .int .i64 x3, .int .i64 x4], .agg #[.int .i64 y0, .int .i64 y1, .int .i64 y2, .int .i64 y3, .int .i64 y4]] w fun e w' => e = .returned (.bool true) ∧ Below w.heap.size w w' := by
  go_enter Try.func11, Try.ntmps11
  go_wp2_with fail
  refine (law_may _ _ _ _ _).mono ?_
  rintro e w1 ⟨rfl, hb⟩
  have hk_new : Keeps (w.heap.size + 3) [(⟨w.heap.size, 0, none⟩, .int .i64 t), (⟨w.heap.size, 1, none⟩, .bool c), (⟨w.heap.size, 2, none⟩, .int .i64 s), (⟨w.heap.size, 3, none⟩, .int .i64 v), (⟨w.heap.size + 1, 0, none⟩, .int .i64 x0), (⟨w.heap.size + 1, 1, none⟩, .int .i64 x1), (⟨w.heap.size + 1, 2, none⟩, .int .i64 x2), (⟨w.heap.size + 1, 3, none⟩, .int .i64 x3), (⟨w.heap.size + 1, 4, none⟩, .int .i64 x4), (⟨w.heap.size + 2, 0, none⟩, .int .i64 y0), (⟨w.heap.size + 2, 1, none⟩, .int .i64 y1), (⟨w.heap.size + 2, 2, none⟩, .int .i64 y2), (⟨w.heap.size + 2, 3, none⟩, .int .i64 y3), (⟨w.heap.size + 2, 4, none⟩, .int .i64 y4)] w w1 := by
    refine Keeps.below ⟨?_, by first | (simp; done) | (simp; omega) | omega, by first | (simp [List.forall_mem_cons]; done) | (simp [List.forall_mem_cons]; omega), by simp [cellsAre_cons, cellsAre_nil, go_sem, World.cell?_alloc_past, *]⟩ hb
    (repeat (first | with_reducible apply Below.drew | with_reducible refine Below.setCell ?_ (by first | exact Nat.le_refl _ | (simp; done) | (simp; omega) | omega) _ | with_reducible refine Below.alloc ?_ (by first | exact Nat.le_refl _ | (simp; done) | (simp; omega) | omega) _ | with_reducible exact Below.refl _ _ | with_reducible assumption))
  clear hb
  try clear hk
  have hk := hk_new
  clear hk_new
  have hk' := hk
  obtain ⟨h1, h2, h3, h4⟩ := hk'
  simp only [cellsAre_cons, cellsAre_nil, and_true] at h4
  go_wp2_with fail
  refine (HA.out _).mono ?_
  rintro e wa ⟨rfl, hb⟩
  have hk_new : Keeps (w.heap.size + 3) [(⟨w.heap.size, 0, none⟩, .int .i64 t), (⟨w.heap.size, 1, none⟩, .bool c), (⟨w.heap.size, 2, none⟩, .int .i64 s), (⟨w.heap.size, 3, none⟩, .int .i64 v), (⟨w.heap.size + 1, 0, none⟩, .int .i64 x0), (⟨w.heap.size + 1, 1, none⟩, .int .i64 x1), (⟨w.heap.size + 1, 2, none⟩, .int .i64 v), (⟨w.heap.size + 1, 3, none⟩, .int .i64 x3), (⟨w.heap.size + 1, 4, none⟩, .int .i64 x4), (⟨w.heap.size + 2, 0, none⟩, .int .i64 y0), (⟨w.heap.size + 2, 1, none⟩, .int .i64 y1), (⟨w.heap.size + 2, 2, none⟩, .int .i64 v), (⟨w.heap.size + 2, 3, none⟩, .int .i64 y3), (⟨w.heap.size + 2, 4, none⟩, .int .i64 y4)] w wa := by
    refine Keeps.below ⟨?_, by first | (simp; done) | (simp; omega) | omega, by first | (simp [List.forall_mem_cons]; done) | (simp [List.forall_mem_cons]; omega), by simp [cellsAre_cons, cellsAre_nil, go_sem, World.cell?_alloc_past, *]⟩ hb
    (repeat (first | with_reducible apply Below.drew | with_reducible refine Below.setCell ?_ (by first | exact Nat.le_refl _ | (simp; done) | (simp; omega) | omega) _ | with_reducible refine Below.alloc ?_ (by first | exact Nat.le_refl _ | (simp; done) | (simp; omega) | omega) _ | with_reducible exact Below.refl _ _ | with_reducible assumption))
  clear hb
  try clear hk
  have hk := hk_new
  clear hk_new
  clear h1 h2 h3 h4
  have hk' := hk
  obtain ⟨h1, h2, h3, h4⟩ := hk'
  simp only [cellsAre_cons, cellsAre_nil, and_true] at h4
  have lta_0 : w.heap.size < wa.heap.size := by omega
  have nea_0 : ¬ w.heap.size = wa.heap.size := by omega
  have nfa_0 : ¬ wa.heap.size = w.heap.size := by omega
  have lta_1 : w.heap.size + 1 < wa.heap.size := by omega
  have nea_1 : ¬ w.heap.size + 1 = wa.heap.size := by omega
  have nfa_1 : ¬ wa.heap.size = w.heap.size + 1 := by omega
  have lta_2 : w.heap.size + 2 < wa.heap.size := by omega
  have nea_2 : ¬ w.heap.size + 2 = wa.heap.size := by omega
  have nfa_2 : ¬ wa.heap.size = w.heap.size + 2 := by omega
  have h2a := h2
  go_upto_region 6 with fail
  go_cut [8] (fun s8 wx => ∃ b g2 : Nat, s8 = .pointer (some ⟨b, 0, none⟩) ∧ wa.heap.size + 1 ≤ b ∧ wa.heap.size + 1 ≤ g2 ∧ g2 ≠ b ∧ Keeps wx.heap.size ([(⟨b, 0, none⟩, .int .i64 1), (⟨b, 1, none⟩, .int .i64 (v + 1)), (⟨b, 2, none⟩, .slice (some ⟨g2, 0, none⟩) 1 1), (⟨g2, 0, none⟩, .int .i64 y3), (⟨g2, 1, none⟩, .int .i64 aa)] ++ [(⟨wa.heap.size, 0, none⟩, .int .i64 ca), (⟨wa.heap.size, 1, none⟩, .int .i64 va), (⟨wa.heap.size, 2, none⟩, .slice none 0 0), (⟨w.heap.size, 0, none⟩, .int .i64 t), (⟨w.heap.size, 1, none⟩, .bool c), (⟨w.heap.size, 2, none⟩, .int .i64 s), (⟨w.heap.size, 3, none⟩, .int .i64 v), (⟨w.heap.size + 1, 0, none⟩, .int .i64 x0), (⟨w.heap.size + 1, 1, none⟩, .int .i64 x1), (⟨w.heap.size + 1, 2, none⟩, .int .i64 v), (⟨w.heap.size + 1, 3, none⟩, .int .i64 x3), (⟨w.heap.size + 1, 4, none⟩, .int .i64 x4), (⟨w.heap.size + 2, 0, none⟩, .int .i64 y0), (⟨w.heap.size + 2, 1, none⟩, .int .i64 y1), (⟨w.heap.size + 2, 2, none⟩, .int .i64 v), (⟨w.heap.size + 2, 3, none⟩, .int .i64 y3), (⟨w.heap.size + 2, 4, none⟩, .int .i64 y4)]) w wx)
  case first =>
    refine abs_code (fun w' => Keeps (wa.heap.size + 1) [(⟨wa.heap.size, 0, none⟩, .int .i64 ca), (⟨wa.heap.size, 1, none⟩, .int .i64 va), (⟨wa.heap.size, 2, none⟩, .slice none 0 0), (⟨w.heap.size, 0, none⟩, .int .i64 t), (⟨w.heap.size, 1, none⟩, .bool c), (⟨w.heap.size, 2, none⟩, .int .i64 s), (⟨w.heap.size, 3, none⟩, .int .i64 v), (⟨w.heap.size + 1, 0, none⟩, .int .i64 x0), (⟨w.heap.size + 1, 1, none⟩, .int .i64 x1), (⟨w.heap.size + 1, 2, none⟩, .int .i64 v), (⟨w.heap.size + 1, 3, none⟩, .int .i64 x3), (⟨w.heap.size + 1, 4, none⟩, .int .i64 x4), (⟨w.heap.size + 2, 0, none⟩, .int .i64 y0), (⟨w.heap.size + 2, 1, none⟩, .int .i64 y1), (⟨w.heap.size + 2, 2, none⟩, .int .i64 v), (⟨w.heap.size + 2, 3, none⟩, .int .i64 y3), (⟨w.heap.size + 2, 4, none⟩, .int .i64 y4)] w w') (by refine ⟨?_, by first | (simp; done) | (simp; omega) | omega, by first | (simp [List.forall_mem_cons]; done) | (simp [List.forall_mem_cons]; omega), by simp [cellsAre_cons, cellsAre_nil, go_sem, World.cell?_alloc_past, *]⟩; (repeat (first | with_reducible apply Below.drew | with_reducible refine Below.setCell ?_ (by first | exact Nat.le_refl _ | (simp; done) | (simp; omega) | omega) _ | with_reducible refine Below.alloc ?_ (by first | exact Nat.le_refl _ | (simp; done) | (simp; omega) | omega) _ | with_reducible exact Below.refl _ _ | with_reducible assumption))) ?_
    intro wb hK0
    clear h1 h2 h3 h4 hk
    have hsb : wa.heap.size + 1 ≤ wb.heap.size := hK0.2.1
    go_region_held3 (fun w' => Keeps (wa.heap.size + 1) [(⟨wa.heap.size, 0, none⟩, .int .i64 ca), (⟨wa.heap.size, 1, none⟩, .int .i64 va), (⟨wa.heap.size, 2, none⟩, .slice none 0 0), (⟨w.heap.size, 0, none⟩, .int .i64 t), (⟨w.heap.size, 1, none⟩, .bool c), (⟨w.heap.size, 2, none⟩, .int .i64 s), (⟨w.heap.size, 3, none⟩, .int .i64 v), (⟨w.heap.size + 1, 0, none⟩, .int .i64 x0), (⟨w.heap.size + 1, 1, none⟩, .int .i64 x1), (⟨w.heap.size + 1, 2, none⟩, .int .i64 v), (⟨w.heap.size + 1, 3, none⟩, .int .i64 x3), (⟨w.heap.size + 1, 4, none⟩, .int .i64 x4), (⟨w.heap.size + 2, 0, none⟩, .int .i64 y0), (⟨w.heap.size + 2, 1, none⟩, .int .i64 y1), (⟨w.heap.size + 2, 2, none⟩, .int .i64 v), (⟨w.heap.size + 2, 3, none⟩, .int .i64 y3), (⟨w.heap.size + 2, 4, none⟩, .int .i64 y4)] w w' ∧ (wa.heap.size + 1 ≤ w'.heap.size ∧ w'.cell? ⟨w.heap.size, 0, none⟩ = some (.int .i64 t) ∧ w'.cell? ⟨w.heap.size, 1, none⟩ = some (.bool c) ∧ w'.cell? ⟨w.heap.size, 2, none⟩ = some (.int .i64 s) ∧ w'.cell? ⟨w.heap.size, 3, none⟩ = some (.int .i64 v) ∧ w'.cell? ⟨wa.heap.size, 0, none⟩ = some (.int .i64 ca) ∧ w'.cell? ⟨wa.heap.size, 1, none⟩ = some (.int .i64 va) ∧ w'.cell? ⟨wa.heap.size, 2, none⟩ = some (.slice none 0 0) ∧ w'.cell? ⟨w.heap.size + 2, 0, none⟩ = some (.int .i64 y0) ∧ w'.cell? ⟨w.heap.size + 2, 1, none⟩ = some (.int .i64 y1) ∧ w'.cell? ⟨w.heap.size + 2, 2, none⟩ = some (.int .i64 v) ∧ w'.cell? ⟨w.heap.size + 2, 3, none⟩ = some (.int .i64 y3) ∧ w'.cell? ⟨w.heap.size + 2, 4, none⟩ = some (.int .i64 y4))) (refine expect_mk (by repeat (first | with_reducible assumption | with_reducible apply Keeps.drew | with_reducible apply Keeps.alloc | with_reducible refine Keeps.setCell ?_ (by first | (simp; done) | (simp; omega) | omega) (by first | (simp; done) | (simp; omega) | omega) _)) (fun hk => by obtain ⟨_, hs, _, h4⟩ := hk; simp only [cellsAre_cons, cellsAre_nil, and_true] at h4; simp only [h4, hs, true_and, and_self]))
      (first
      | (go_at_call 31; obtain ⟨hk0, hsz, _⟩ := ‹Keeps _ _ _ _ ∧ _›; refine (behind_nil _ _ _ _ _ _ _).mono ?_; rintro e w6 ⟨rfl, hb⟩; have hK6 := Keeps.below hk0 hb; have hs6 : wa.heap.size + 1 ≤ w6.heap.size := hK6.2.1; obtain ⟨hq6, hr6⟩ := below_cells hb; have hz6 := hb.size; (try simp at hz6); (try have hz6l := Nat.lt_of_succ_le hz6); clear hb)
      | (go_at_call 24; obtain ⟨hk0, hsz, _⟩ := ‹Keeps _ _ _ _ ∧ _›; refine (HB.out _).mono ?_; rintro e w7 ⟨g2, rfl, q1, q2, q3, q4, q5, q6, hb⟩; have hK7 := Keeps.below hk0 hb; have hs7 : wa.heap.size + 1 ≤ w7.heap.size := hK7.2.1; have hg2 : wa.heap.size + 1 ≤ g2 := Nat.le_trans hsz q1;  (try simp at q1); obtain ⟨hq7, hr7⟩ := below_cells hb; have hz7 := hb.size; (try simp at hz7); (try have hz7l := Nat.lt_of_succ_le hz7); clear hb))
    all_goals go_wp2_with fail
    all_goals go_meet
    all_goals refine ⟨_, g2, rfl, by first | omega | (simp; omega), by omega, by first | omega | (simp; omega), Keeps.more (B := wa.heap.size + 1) (by repeat (first | with_reducible assumption | with_reducible apply Keeps.drew | with_reducible apply Keeps.alloc | with_reducible refine Keeps.setCell ?_ (by first | (simp; done) | (simp; omega) | omega) (by first | (simp; done) | (simp; omega) | omega) _)) (by simp; omega) (by simp) (by simp [List.forall_mem_cons]; omega) ?_⟩
    all_goals ((try have e1 : ¬ g2 = w6.heap.size := by omega); (try have e1' : ¬ w6.heap.size = g2 := by omega); (try have e2 : ¬ g2 = wb.heap.size := by omega); (try have e2' : ¬ wb.heap.size = g2 := by omega); simp [cellsAre_cons, cellsAre_nil, go_sem, *]; done)
  case rest =>
    obtain ⟨b, g2, rfl, hb1, hb2, hne, hk⟩ := hcut
    simp only [List.cons_append, List.nil_append] at hk
    clear h1 h2 h3 h4
    generalize wa.heap.size = b1 at *
    have hk' := hk
    obtain ⟨h1, h2, h3, h4⟩ := hk'
    simp only [cellsAre_cons, cellsAre_nil, and_true] at h4
    have hbw := h3 (⟨b, 0, none⟩, .int .i64 1) (by simp)
    have hgw := h3 (⟨g2, 0, none⟩, .int .i64 y3) (by simp)
    have hb1w := h3 (⟨b1, 0, none⟩, .int .i64 ca) (by simp)
    dsimp only at hbw hgw hb1w
    go_wp2_with fail
    clear h1 h2 h3 h4
    go_region_held3 (fun w' => Keeps (wc.heap.size) [(⟨b, 0, none⟩, .int .i64 1), (⟨b, 1, none⟩, .int .i64 (v + 1)), (⟨b, 2, none⟩, .slice (some ⟨g2, 0, none⟩) 1 1), (⟨g2, 0, none⟩, .int .i64 y3), (⟨g2, 1, none⟩, .int .i64 aa), (⟨b1, 0, none⟩, .int .i64 ca), (⟨b1, 1, none⟩, .int .i64 va), (⟨b1, 2, none⟩, .slice none 0 0), (⟨w.heap.size, 0, none⟩, .int .i64 t), (⟨w.heap.size, 1, none⟩, .bool c), (⟨w.heap.size, 2, none⟩, .int .i64 s), (⟨w.heap.size, 3, none⟩, .int .i64 v), (⟨w.heap.size + 1, 0, none⟩, .int .i64 x0), (⟨w.heap.size + 1, 1, none⟩, .int .i64 x1), (⟨w.heap.size + 1, 2, none⟩, .int .i64 v), (⟨w.heap.size + 1, 3, none⟩, .int .i64 x3), (⟨w.heap.size + 1, 4, none⟩, .int .i64 x4), (⟨w.heap.size + 2, 0, none⟩, .int .i64 y0), (⟨w.heap.size + 2, 1, none⟩, .int .i64 y1), (⟨w.heap.size + 2, 2, none⟩, .int .i64 v), (⟨w.heap.size + 2, 3, none⟩, .int .i64 y3), (⟨w.heap.size + 2, 4, none⟩, .int .i64 y4)] w w' ∧ (wc.heap.size ≤ w'.heap.size ∧ w'.cell? ⟨b1, 0, none⟩ = some (.int .i64 ca) ∧ w'.cell? ⟨b, 0, none⟩ = some (.int .i64 1) ∧ w'.cell? ⟨b, 1, none⟩ = some (.int .i64 (v + 1)) ∧ w'.cell? ⟨b, 2, none⟩ = some (.slice (some ⟨g2, 0, none⟩) 1 1) ∧ w'.cell? ⟨g2, 0, none⟩ = some (.int .i64 y3) ∧ w'.cell? ⟨g2, 1, none⟩ = some (.int .i64 aa) ∧ w'.cell? ⟨w.heap.size, 0, none⟩ = some (.int .i64 t) ∧ w'.cell? ⟨w.heap.size, 1, none⟩ = some (.bool c) ∧ w'.cell? ⟨w.heap.size, 2, none⟩ = some (.int .i64 s) ∧ w'.cell? ⟨w.heap.size, 3, none⟩ = some (.int .i64 v) ∧ w'.cell? ⟨w.heap.size + 2, 0, none⟩ = some (.int .i64 y0) ∧ w'.cell? ⟨w.heap.size + 2, 1, none⟩ = some (.int .i64 y1) ∧ w'.cell? ⟨w.heap.size + 2, 2, none⟩ = some (.int .i64 v) ∧ w'.cell? ⟨w.heap.size + 2, 3, none⟩ = some (.int .i64 y3) ∧ w'.cell? ⟨w.heap.size + 2, 4, none⟩ = some (.int .i64 y4))) (refine expect_mk (by first | with_reducible assumption | (with_reducible apply Keeps.drew; with_reducible assumption) | exact Keeps.below ((‹Keeps _ _ _ _ ∧ _›).1) (by with_reducible assumption)) (fun hk => by obtain ⟨_, hs, _, h4⟩ := hk; simp only [cellsAre_cons, cellsAre_nil, and_true] at h4; simp only [h4, hs, true_and, and_self]))
      (first
      | (go_at_call 24; refine (HB.out _).mono ?_; rintro e w5 ⟨g3, rfl, q1, q2, q3, q4, q5, q6, hb⟩)
      | (go_at_call 26; obtain ⟨_, r0, r⟩ := ‹Keeps _ _ _ _ ∧ _›; refine (same_one 1 (v + 1) y3 aa g2 g3 _ ?_ ?_ ?_ ?_ ?_ ?_).mono ?_; (omega); (with_reducible assumption); (simp only [r]); (simp only [r]); (with_reducible assumption); (with_reducible assumption); rintro e w6 ⟨rfl, hb⟩))
    all_goals (obtain ⟨hk, _⟩ := ‹Keeps _ _ _ _ ∧ _›)
    have hk' := hk
    obtain ⟨h1, h2, h3, h4⟩ := hk'
    simp only [cellsAre_cons, cellsAre_nil, and_true] at h4
    have ny0 : ¬ w.heap.size + 2 = b := by omega
    have ny1 : ¬ w.heap.size + 2 = b1 := by omega
    have ny2 : ¬ w.heap.size + 2 = g2 := by omega
    have nz0 : ¬ b = w.heap.size + 2 := by omega
    have nz1 : ¬ b1 = w.heap.size + 2 := by omega
    have nz2 : ¬ g2 = w.heap.size + 2 := by omega
    go_wp2_with fail
    refine (HC.out _).mono ?_
    rintro e w5 ⟨cc, vc, sa, sn, sm, rfl, hcc, hb⟩
    have hcc2 : (cc != 2) = true := hcc
    have hk_new : Keeps (wc.heap.size) [(⟨b, 0, none⟩, .int .i64 1), (⟨b, 1, none⟩, .int .i64 (v + 1)), (⟨b, 2, none⟩, .slice (some ⟨g2, 0, none⟩) 1 1), (⟨g2, 0, none⟩, .int .i64 y3), (⟨g2, 1, none⟩, .int .i64 aa), (⟨b1, 0, none⟩, .int .i64 ca), (⟨b1, 1, none⟩, .int .i64 va), (⟨b1, 2, none⟩, .slice none 0 0), (⟨w.heap.size, 0, none⟩, .int .i64 t), (⟨w.heap.size, 1, none⟩, .bool c), (⟨w.heap.size, 2, none⟩, .int .i64 s), (⟨w.heap.size, 3, none⟩, .int .i64 v), (⟨w.heap.size + 1, 0, none⟩, .int .i64 x0), (⟨w.heap.size + 1, 1, none⟩, .int .i64 x1), (⟨w.heap.size + 1, 2, none⟩, .int .i64 v), (⟨w.heap.size + 1, 3, none⟩, .int .i64 x3), (⟨w.heap.size + 1, 4, none⟩, .int .i64 x4), (⟨w.heap.size + 2, 0, none⟩, .int .i64 y0), (⟨w.heap.size + 2, 1, none⟩, .int .i64 y1), (⟨w.heap.size + 2, 2, none⟩, .int .i64 (-1)), (⟨w.heap.size + 2, 3, none⟩, .int .i64 y3), (⟨w.heap.size + 2, 4, none⟩, .int .i64 y4)] w w5 := by
      refine Keeps.below ⟨?_, by first | (simp; done) | (simp; omega) | omega, by first | (simp [List.forall_mem_cons]; done) | (simp [List.forall_mem_cons]; omega), by simp [cellsAre_cons, cellsAre_nil, go_sem, World.cell?_alloc_past, *]⟩ hb
      (repeat (first | with_reducible apply Below.drew | with_reducible refine Below.setCell ?_ (by first | exact Nat.le_refl _ | (simp; done) | (simp; omega) | omega) _ | with_reducible refine Below.alloc ?_ (by first | exact Nat.le_refl _ | (simp; done) | (simp; omega) | omega) _ | with_reducible exact Below.refl _ _ | with_reducible assumption))
    clear hb
    try clear hk
    have hk := hk_new
    clear hk_new
    clear h1 h2 h3 h4
    have hk' := hk
    obtain ⟨h1, h2, h3, h4⟩ := hk'
    simp only [cellsAre_cons, cellsAre_nil, and_true] at h4
    have ltu_0 : w.heap.size < w5.heap.size := by omega
    have neu_0 : ¬ w.heap.size = w5.heap.size := by omega
    have nfu_0 : ¬ w5.heap.size = w.heap.size := by omega
    have ltu_1 : w.heap.size + 1 < w5.heap.size := by omega
    have neu_1 : ¬ w.heap.size + 1 = w5.heap.size := by omega
    have nfu_1 : ¬ w5.heap.size = w.heap.size + 1 := by omega
    have ltu_2 : w.heap.size + 2 < w5.heap.size := by omega
    have neu_2 : ¬ w.heap.size + 2 = w5.heap.size := by omega
    have nfu_2 : ¬ w5.heap.size = w.heap.size + 2 := by omega
    have ltu_3 : b1 < w5.heap.size := by omega
    have neu_3 : ¬ b1 = w5.heap.size := by omega
    have nfu_3 : ¬ w5.heap.size = b1 := by omega
    have ltu_4 : b < w5.heap.size := by omega
    have neu_4 : ¬ b = w5.heap.size := by omega
    have nfu_4 : ¬ w5.heap.size = b := by omega
    have ltu_5 : g2 < w5.heap.size := by omega
    have neu_5 : ¬ g2 = w5.heap.size := by omega
    have nfu_5 : ¬ w5.heap.size = g2 := by omega
    go_wp2_with fail
    refine (works_any _).mono ?_
    rintro e w9 ⟨rfl, hb⟩
    have hbl : Below w.heap.size w w9 := by
      refine Below.trans ?_ (hb.mono (by simp; omega))
      (repeat (first | with_reducible apply Below.drew | with_reducible refine Below.setCell ?_ (by first | exact Nat.le_refl _ | (simp; done) | (simp; omega) | omega) _ | with_reducible refine Below.alloc ?_ (by first | exact Nat.le_refl _ | (simp; done) | (simp; omega) | omega) _ | with_reducible exact Below.refl _ _ | with_reducible assumption))
    go_wp2_with fail
    go_ret
    exact ⟨rfl, hbl⟩
end Go.Proofs.Ytigkfekidmjpbaa
