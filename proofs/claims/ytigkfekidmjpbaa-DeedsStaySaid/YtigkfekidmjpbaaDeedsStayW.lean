/-
  The walk over the statement 'DeedsStay'.
-/
import Derived.Test.YtigkfekidmjpbaaProg
import Derived.Test.YtigkfekidmjpbaaSeq
import Derived.WalkKit
import Derived.WalkSpells
import Derived.WalkLawsBesides
import Derived.RowKit3
import Derived.Lib.Hide
import Derived.Test.YtigkfekidmjpbaaDeedsLeadW
import Derived.Test.YtigkfekidmjpbaaSeqF
set_option linter.unusedSimpArgs false
set_option linter.unusedVariables false
namespace Go.Proofs.Ytigkfekidmjpbaa
open Go.RowKit Go.Sq Go.Arch

/-- A slice of events that came in. -/
def EvRow (w : World) (sl : Value) (n : Nat) (ev : Nat → Ev) : Prop :=
  (∃ a cap, sl = .slice a 0 cap ∧ n = 0) ∨ ∃ (b off cap : Nat), sl = .slice (some ⟨b, off, none⟩) n cap ∧ n ≤ cap ∧ cap ≤ maxLen ∧ b < w.heap.size ∧
    ∀ i, i < n → w.cell? ⟨b, off + i * 2, none⟩ = some (.int .i64 (ev i).kind) ∧ w.cell? ⟨b, off + i * 2 + 1, none⟩ = some (.int .i64 (ev i).arg)


theorem stay_ap {t s v k a : Int} {c : Bool} {q : St} (h : applyS ⟨t, c, s, v⟩ ⟨k, a⟩ = q) :
    Hid (∀ w, Calls Try.prog 28 #[.agg #[.int .i64 t, .bool c, .int .i64 s, .int .i64 v], .agg #[.int .i64 k, .int .i64 a]] w fun e w' => e = .returned (.agg #[.int .i64 q.tag, .bool q.closed, .int .i64 q.sum, .int .i64 q.ver]) ∧ Below w.heap.size w w') :=
  Lib.hid (fun w => by rw [← h]; exact apply_any t s v k a c w)

theorem stay_ne {t s v k a : Int} {c : Bool} (h : applyS ⟨t, c, s, v⟩ ⟨k, a⟩ ≠ ⟨t, c, s, v⟩) :
    c = false ∧ ∃ pt ps pc, applyS ⟨t, c, s, v⟩ ⟨k, a⟩ = ⟨pt, pc, ps, v + 1⟩ ∧ (t ≠ 0 → pt = t) ∧ (t = 3 → s ≤ ps) := by
  unfold applyS at h ⊢
  split at h
  · rename_i hc
    rw [if_pos hc]
    have hd := hc.2
    unfold comesS at hd
    rw [decide_eq_true_eq] at hd
    dsimp only at hd
    obtain ⟨_, hcc, hd⟩ := hd
    refine ⟨hcc, _, _, _, rfl, fun h0 => ?_, fun h3 => ?_⟩
    · show (if k = 1 then a else t) = t
      rcases hd with ⟨_, h1, _⟩ | ⟨h1, _⟩ | ⟨h1, _⟩ | ⟨h1, _⟩
      · exact absurd h1 h0
      all_goals exact if_neg (by omega)
    · show s ≤ if k = 2 then s + a else if k = 3 then s - a else s
      rcases hd with ⟨_, h1, _⟩ | ⟨h1, _, h2, _⟩ | ⟨h1, h2, _⟩ | ⟨h1, _⟩
      · omega
      · rw [if_pos h1]; omega
      · omega
      · rw [if_neg (by omega), if_neg (by omega)]; exact Int.le_refl _
  · exact absurd rfl h
set_option maxHeartbeats 1000000 in
theorem stay_out (t s v : Int) (c : Bool) (sl : Value) (n : Nat) (ev : Nat → Ev) (w : World) (hs : EvRow w sl n ev) (h : 1000 < n ∨ mayS ⟨t, c, s, v⟩ = false) :
    Calls Try.prog 10 #[.agg #[.int .i64 t, .bool c, .int .i64 s, .int .i64 v], sl] w fun e w' => e = .returned (.bool true) ∧ Below w.heap.size w w' := by
  obtain ⟨a, cap, rfl, hn⟩ : ∃ a cap, sl = .slice a n cap ∧ n ≤ maxLen := by
    rcases hs with ⟨a, cap, rfl, rfl⟩ | ⟨b, off, cap, rfl, h1, h2, _⟩
    · exact ⟨_, _, rfl, by simp [maxLen]⟩
    · exact ⟨_, _, rfl, by omega⟩
  unfold maxLen at hn
  by_cases h0 : 1000 < n
  · have hg : decide (1000 < (n : Int)) = true := by simp; omega
    clear h hs
    go_enter Try.func10, Try.ntmps10
    go_wp2_with fail
    refine (works_any _).mono ?_
    rintro e w1 ⟨rfl, hb⟩
    go_wp2_with fail
    go_ret
    exact ⟨rfl, Below.trans (by (repeat (first | with_reducible apply Below.drew | with_reducible refine Below.setCell ?_ (by first | exact Nat.le_refl _ | (simp; done) | (simp; omega) | omega) _ | with_reducible refine Below.alloc ?_ (by first | exact Nat.le_refl _ | (simp; done) | (simp; omega) | omega) _ | with_reducible exact Below.refl _ _ | with_reducible assumption))) (hb.mono (by simp))⟩
  · have hm := h.resolve_left h0
    have hg : decide (1000 < (n : Int)) = false := by simp; omega
    clear h hs h0
    go_enter Try.func10, Try.ntmps10
    go_wp2_with fail
    refine (law_may _ _ _ _ _).mono ?_
    rintro e w1 ⟨rfl, hb⟩
    have hb1 : Below w.heap.size w w1 := Below.trans (by (repeat (first | with_reducible apply Below.drew | with_reducible refine Below.setCell ?_ (by first | exact Nat.le_refl _ | (simp; done) | (simp; omega) | omega) _ | with_reducible refine Below.alloc ?_ (by first | exact Nat.le_refl _ | (simp; done) | (simp; omega) | omega) _ | with_reducible exact Below.refl _ _ | with_reducible assumption))) (hb.mono (by simp))
    clear hb
    go_wp2_with fail
    refine (works_any _).mono ?_
    rintro e w2 ⟨rfl, hb⟩
    go_wp2_with fail
    go_ret
    exact ⟨rfl, hb1.trans (hb.mono hb1.size)⟩

set_option maxRecDepth 100000 in
set_option maxHeartbeats 4000000 in
theorem stay_in (t s v : Int) (c : Bool) (sl : Value) (n : Nat) (ev : Nat → Ev) (w : World) (hs : EvRow w sl n ev) (hn : n ≤ 1000) (hm : mayS ⟨t, c, s, v⟩ = true) :
    Calls Try.prog 10 #[.agg #[.int .i64 t, .bool c, .int .i64 s, .int .i64 v], sl] w fun e w' => e = .returned (.bool true) ∧ Below w.heap.size w w' := by
  have hg : decide (1000 < (n : Int)) = false := by simp; omega
  rcases hs with ⟨sa, cap, rfl, rfl⟩ | ⟨sb, so, cap, rfl, hc1, hc2, hsb, hcell⟩
  · clear hn
    go_enter Try.func10, Try.ntmps10
    go_wp2_with fail
    refine (law_may _ _ _ _ _).mono ?_
    rintro e w1 ⟨rfl, hb⟩
    have hb1 : Below w.heap.size w w1 := Below.trans (by (repeat (first | with_reducible apply Below.drew | with_reducible refine Below.setCell ?_ (by first | exact Nat.le_refl _ | (simp; done) | (simp; omega) | omega) _ | with_reducible refine Below.alloc ?_ (by first | exact Nat.le_refl _ | (simp; done) | (simp; omega) | omega) _ | with_reducible exact Below.refl _ _ | with_reducible assumption))) (hb.mono (by simp))
    clear hb
    go_wp2_with fail
    refine wp_loop_rounds 1 ?_
    rw [rounds_succ]
    go_wp2_with fail
    refine (works_any _).mono ?_
    rintro e w2 ⟨rfl, hb⟩
    go_wp2_with fail
    go_ret
    exact ⟨rfl, hb1.trans (hb.mono hb1.size)⟩
  · unfold maxLen at hc2
    have HC := Lib.hid hcell
    clear hcell
    go_enter Try.func10, Try.ntmps10
    go_wp2_with fail
    refine (law_may _ _ _ _ _).mono ?_
    rintro e w1 ⟨rfl, hb⟩
    have hk_new : Keeps (w.heap.size + 1) [(⟨w.heap.size, 0, none⟩, .int .i64 t), (⟨w.heap.size, 1, none⟩, .bool c), (⟨w.heap.size, 2, none⟩, .int .i64 s), (⟨w.heap.size, 3, none⟩, .int .i64 v)] w w1 := by
      refine Keeps.below ⟨?_, by first | (simp; done) | (simp; omega) | omega, by first | (simp [List.forall_mem_cons]; done) | (simp [List.forall_mem_cons]; omega), by simp [cellsAre_cons, cellsAre_nil, go_sem, World.cell?_alloc_past, *]⟩ hb
      (repeat (first | with_reducible apply Below.drew | with_reducible refine Below.setCell ?_ (by first | exact Nat.le_refl _ | (simp; done) | (simp; omega) | omega) _ | with_reducible refine Below.alloc ?_ (by first | exact Nat.le_refl _ | (simp; done) | (simp; omega) | omega) _ | with_reducible exact Below.refl _ _ | with_reducible assumption))
    clear hb
    try clear hk
    have hk := hk_new
    clear hk_new
    go_wp2_with fail
    go_loopw [5] (fun i wr => ∃ (k : Nat) (q : St), k ≤ n ∧ i = .int .i64 k ∧ mayS q = true ∧ Keeps (w.heap.size + 1) [(⟨w.heap.size, 0, none⟩, .int .i64 q.tag), (⟨w.heap.size, 1, none⟩, .bool q.closed), (⟨w.heap.size, 2, none⟩, .int .i64 q.sum), (⟨w.heap.size, 3, none⟩, .int .i64 q.ver)] w wr) (fun i _ => n - (intOf i).toNat)
    case atStart => exact ⟨0, ⟨t, c, s, v⟩, by omega, rfl, hm, hk⟩
    case round =>
      obtain ⟨k, ⟨t, c, s, v⟩, hkn, rfl, hm, hk⟩ := hrel
      by_cases hlt : k < n
      · obtain ⟨g1, g2⟩ := HC.out k hlt
        obtain ⟨_, _, q3, q4⟩ := mayS_bounds hm
        have hlt' : decide ((k : Int) < (n : Int)) = true := by simp; omega
        by_cases hp : applyS ⟨t, c, s, v⟩ ⟨(ev k).kind, (ev k).arg⟩ = ⟨t, c, s, v⟩
        · have HP := stay_ap hp
          have hmp := hm
          clear hp
          obtain ⟨h1, h2, h3, h4⟩ := id hk
          simp only [cellsAre_cons, cellsAre_nil, and_true] at h4
          go_wp2_with fail
          refine wp_region_fl 6 1 (.cells ([.int .i64 0, .bool false, .int .i64 0, .int .i64 0] : List Value).toArray 50) (w.heap.size + 1) (fun w' => Keeps (w.heap.size + 1) [(⟨w.heap.size, 0, none⟩, .int .i64 t), (⟨w.heap.size, 1, none⟩, .bool c), (⟨w.heap.size, 2, none⟩, .int .i64 s), (⟨w.heap.size, 3, none⟩, .int .i64 v)] w w') (by kernel_rfl) (by kernel_rfl) rfl (by kernel_rfl) (by kernel_rfl) (by kernel_rfl) (by kernel_rfl) (by kernel_rfl) rfl ?_ (fun _ h => h.alloc _) (fun _ h => h.2.1) (by with_reducible apply Keeps.drew; with_reducible assumption) rfl ?_
          · intro ρ w'
            go_simp
          intro K T hK hT hT'
          simp only [List.map, List.take, List.drop] at hK ⊢
          go_wp2_with (first
            | (apply SeqB.skip; rfl; simp only [Act.put, List.setIfInBounds_toArray, List.set_cons_zero, List.set_cons_succ])
            | (apply SeqB.call; rfl; rfl; (intro w2 hw; obtain ⟨h1, h2, h3, h4⟩ := hT _ hw; simp only [cellsAre_cons, cellsAre_nil, and_true] at h4; (have e1 := (h1.cell (p := ⟨sb, so + k * 2, none⟩) hsb).trans g1; have e2 := (h1.cell (p := ⟨sb, so + k * 2 + 1, none⟩) hsb).trans g2); go_simp; exact ⟨rfl, rfl⟩); (intro w2 hw; obtain ⟨h1, h2, h3, h4⟩ := hT _ hw; simp only [cellsAre_cons, cellsAre_nil, and_true] at h4; (have e1 := (h1.cell (p := ⟨sb, so + k * 2, none⟩) hsb).trans g1; have e2 := (h1.cell (p := ⟨sb, so + k * 2 + 1, none⟩) hsb).trans g2); (first | (go_at_call 28; refine (HP.out _).mono ?_; rintro e w' ⟨rfl, hb⟩; exact ⟨rfl, hT' _ ((hT _ hw).below hb), hb⟩))); simp only [Act.put, List.setIfInBounds_toArray, List.set_cons_zero, List.set_cons_succ])
            | (apply SeqB.pure; rfl; (intro w2 hw; obtain ⟨h1, h2, h3, h4⟩ := hT _ hw; simp only [cellsAre_cons, cellsAre_nil, and_true] at h4; (have e1 := (h1.cell (p := ⟨sb, so + k * 2, none⟩) hsb).trans g1; have e2 := (h1.cell (p := ⟨sb, so + k * 2 + 1, none⟩) hsb).trans g2); go_simp; with_reducible rfl); simp only [Act.put, List.setIfInBounds_toArray, List.set_cons_zero, List.set_cons_succ])
            | (apply SeqB.split; rfl; rfl; all_goals (intro hc; simp only [hc]; try simp only [beq_iff_eq, decide_eq_true_eq, beq_eq_false_iff_ne, decide_eq_false_iff_not, bne_iff_ne, ne_eq, Bool.not_eq_true', Bool.not_eq_false', Int.not_le, Int.not_lt, bne_eq_false_iff_eq] at hc)))
          all_goals (apply SeqB.nil; refine hK _ ?_; clear hT hT' hK; intro b w2 hbB hw hbo; obtain ⟨h1, h2, h3, h4⟩ := id hw; simp only [cellsAre_cons, cellsAre_nil, and_true] at h4; have hnb := cellsAre_block hbo; have hbs : b < w2.heap.size := (Array.getElem?_eq_some_iff.1 hbo).1; simp only [List.zipIdx_cons, List.zipIdx_nil, List.map_cons, List.map_nil, cellsAre_cons, cellsAre_nil, and_true, Nat.zero_add, Nat.reduceAdd] at hnb; clear hbo; simp only [Act.put, List.setIfInBounds_toArray, List.set_cons_zero, List.set_cons_succ])
          have nb0 : ¬ w.heap.size = b := by omega
          have nb1 : ¬ b = w.heap.size := by omega
          go_wp2_with fail
          refine abs_code (fun w' => Keeps (b + 1) [(⟨b, 0, none⟩, .int .i64 t), (⟨b, 1, none⟩, .bool c), (⟨b, 2, none⟩, .int .i64 s), (⟨b, 3, none⟩, .int .i64 v), (⟨w.heap.size, 0, none⟩, .int .i64 t), (⟨w.heap.size, 1, none⟩, .bool c), (⟨w.heap.size, 2, none⟩, .int .i64 s), (⟨w.heap.size, 3, none⟩, .int .i64 v)] w w') (by refine ⟨?_, by first | (simp; done) | (simp; omega) | omega, by first | (simp [List.forall_mem_cons]; done) | (simp [List.forall_mem_cons]; omega), by simp [cellsAre_cons, cellsAre_nil, go_sem, h4, hnb, nb0, nb1]⟩; (repeat (first | with_reducible apply Below.drew | with_reducible refine Below.setCell ?_ (by first | exact Nat.le_refl _ | (simp; done) | (simp; omega) | omega) _ | with_reducible refine Below.alloc ?_ (by first | exact Nat.le_refl _ | (simp; done) | (simp; omega) | omega) _ | with_reducible exact Below.refl _ _ | with_reducible assumption))) ?_
          intro w4 hk4
          clear hnb hbs h1 h2 h3 h4 hw
          refine wp_region_all (fun w' => Keeps (b + 1) [(⟨b, 0, none⟩, .int .i64 t), (⟨b, 1, none⟩, .bool c), (⟨b, 2, none⟩, .int .i64 s), (⟨b, 3, none⟩, .int .i64 v), (⟨w.heap.size, 0, none⟩, .int .i64 t), (⟨w.heap.size, 1, none⟩, .bool c), (⟨w.heap.size, 2, none⟩, .int .i64 s), (⟨w.heap.size, 3, none⟩, .int .i64 v)] w w') (by kernel_rfl) (by kernel_rfl) (by with_reducible apply Keeps.drew; with_reducible assumption) rfl ?_
          intro K T hK hT hT'
          simp only [List.map] at hK ⊢
          go_wp2_with (first
            | (apply SeqD.skip; rfl; simp only [Act.put, List.setIfInBounds_toArray, List.set_cons_zero, List.set_cons_succ])
            | (apply SeqD.call; rfl; rfl; (intro w2 hw; obtain ⟨h1, h2, h3, h4⟩ := hT _ hw; simp only [cellsAre_cons, cellsAre_nil, and_true] at h4; (have wv : IntKind.i64.wrap (v + 1) = v + 1 := IntWalk.i64_in _ (by omega)); go_simp; exact ⟨rfl, rfl⟩); (intro w2 hw; obtain ⟨h1, h2, h3, h4⟩ := hT _ hw; simp only [cellsAre_cons, cellsAre_nil, and_true] at h4; (have wv : IntKind.i64.wrap (v + 1) = v + 1 := IntWalk.i64_in _ (by omega)); (first | (go_at_call 30; refine (law_may _ _ _ _ _).mono ?_; rintro e w' ⟨rfl, hb⟩; exact ⟨rfl, hT' _ ((hT _ hw).below hb)⟩))); simp only [Act.put, List.setIfInBounds_toArray, List.set_cons_zero, List.set_cons_succ])
            | (apply SeqD.pure; rfl; (intro w2 hw; obtain ⟨h1, h2, h3, h4⟩ := hT _ hw; simp only [cellsAre_cons, cellsAre_nil, and_true] at h4; (have wv : IntKind.i64.wrap (v + 1) = v + 1 := IntWalk.i64_in _ (by omega)); go_simp; with_reducible rfl); simp only [Act.put, List.setIfInBounds_toArray, List.set_cons_zero, List.set_cons_succ])
            | (apply SeqD.split; rfl; rfl; all_goals (intro hc; simp only [hc]; try simp only [beq_iff_eq, decide_eq_true_eq, beq_eq_false_iff_ne, decide_eq_false_iff_not, bne_iff_ne, ne_eq, Bool.not_eq_true', Bool.not_eq_false', Int.not_le, Int.not_lt, bne_eq_false_iff_eq] at hc)))
          all_goals (apply SeqD.nil; refine hK _ ?_; intro w2 hw; obtain ⟨h1, h2, h3, h4⟩ := id hw; simp only [cellsAre_cons, cellsAre_nil, and_true] at h4; clear hT hT' hK)
          all_goals go_wp2_with fail
          all_goals first | (exfalso; omega) | (go_roundw; (case rel => exact ⟨k + 1, ⟨t, c, s, v⟩, by omega, by go_num, hmp, by refine ⟨?_, by first | (simp; done) | (simp; omega) | omega, by simp [List.forall_mem_cons], by simp [cellsAre_cons, cellsAre_nil, go_sem, h4, nb0, nb1] <;> (repeat' constructor) <;> first | assumption | omega | (symm; assumption) | simp_all⟩; (repeat (first | with_reducible apply Below.drew | with_reducible refine Below.setCell ?_ (by first | exact Nat.le_refl _ | (simp; done) | (simp; omega) | omega) _ | with_reducible refine Below.alloc ?_ (by first | exact Nat.le_refl _ | (simp; done) | (simp; omega) | omega) _ | with_reducible exact Below.refl _ _ | with_reducible assumption))⟩); (case measure => simp [intOf]; omega))
        · obtain ⟨hcc, pt, ps, pc, hp2, ht0, ht3⟩ := stay_ne hp
          have hmp := mayS_apply (e := ⟨(ev k).kind, (ev k).arg⟩) hm
          rw [hp2] at hmp
          have HP := stay_ap hp2
          clear hp hp2
          subst hcc
          have hn1 : (v + 1 == v) = false := by simp; omega
          have hn2 : ¬ v + 1 < v := by omega
          have hn3 : ¬ v + 1 < v + 1 := by omega
          obtain ⟨h1, h2, h3, h4⟩ := id hk
          simp only [cellsAre_cons, cellsAre_nil, and_true] at h4
          by_cases z0 : t = 0
          · have z1 : (t != 0) = false := by simp [z0]
            have z2 : (t == 3) = false := by simp [z0]
            clear ht0 ht3 z0
            go_wp2_with fail
            refine wp_region_fl 6 1 (.cells ([.int .i64 0, .bool false, .int .i64 0, .int .i64 0] : List Value).toArray 50) (w.heap.size + 1) (fun w' => Keeps (w.heap.size + 1) [(⟨w.heap.size, 0, none⟩, .int .i64 t), (⟨w.heap.size, 1, none⟩, .bool false), (⟨w.heap.size, 2, none⟩, .int .i64 s), (⟨w.heap.size, 3, none⟩, .int .i64 v)] w w') (by kernel_rfl) (by kernel_rfl) rfl (by kernel_rfl) (by kernel_rfl) (by kernel_rfl) (by kernel_rfl) (by kernel_rfl) rfl ?_ (fun _ h => h.alloc _) (fun _ h => h.2.1) (by with_reducible apply Keeps.drew; with_reducible assumption) rfl ?_
            · intro ρ w'
              go_simp
            intro K T hK hT hT'
            simp only [List.map, List.take, List.drop] at hK ⊢
            go_wp2_with (first
              | (apply SeqB.skip; rfl; simp only [Act.put, List.setIfInBounds_toArray, List.set_cons_zero, List.set_cons_succ])
              | (apply SeqB.call; rfl; rfl; (intro w2 hw; obtain ⟨h1, h2, h3, h4⟩ := hT _ hw; simp only [cellsAre_cons, cellsAre_nil, and_true] at h4; (have e1 := (h1.cell (p := ⟨sb, so + k * 2, none⟩) hsb).trans g1; have e2 := (h1.cell (p := ⟨sb, so + k * 2 + 1, none⟩) hsb).trans g2); go_simp; exact ⟨rfl, rfl⟩); (intro w2 hw; obtain ⟨h1, h2, h3, h4⟩ := hT _ hw; simp only [cellsAre_cons, cellsAre_nil, and_true] at h4; (have e1 := (h1.cell (p := ⟨sb, so + k * 2, none⟩) hsb).trans g1; have e2 := (h1.cell (p := ⟨sb, so + k * 2 + 1, none⟩) hsb).trans g2); (first | (go_at_call 28; refine (HP.out _).mono ?_; rintro e w' ⟨rfl, hb⟩; exact ⟨rfl, hT' _ ((hT _ hw).below hb), hb⟩))); simp only [Act.put, List.setIfInBounds_toArray, List.set_cons_zero, List.set_cons_succ])
              | (apply SeqB.pure; rfl; (intro w2 hw; obtain ⟨h1, h2, h3, h4⟩ := hT _ hw; simp only [cellsAre_cons, cellsAre_nil, and_true] at h4; (have e1 := (h1.cell (p := ⟨sb, so + k * 2, none⟩) hsb).trans g1; have e2 := (h1.cell (p := ⟨sb, so + k * 2 + 1, none⟩) hsb).trans g2); go_simp; with_reducible rfl); simp only [Act.put, List.setIfInBounds_toArray, List.set_cons_zero, List.set_cons_succ])
              | (apply SeqB.split; rfl; rfl; all_goals (intro hc; simp only [hc]; try simp only [beq_iff_eq, decide_eq_true_eq, beq_eq_false_iff_ne, decide_eq_false_iff_not, bne_iff_ne, ne_eq, Bool.not_eq_true', Bool.not_eq_false', Int.not_le, Int.not_lt, bne_eq_false_iff_eq] at hc)))
            all_goals (apply SeqB.nil; refine hK _ ?_; clear hT hT' hK; intro b w2 hbB hw hbo; obtain ⟨h1, h2, h3, h4⟩ := id hw; simp only [cellsAre_cons, cellsAre_nil, and_true] at h4; have hnb := cellsAre_block hbo; have hbs : b < w2.heap.size := (Array.getElem?_eq_some_iff.1 hbo).1; simp only [List.zipIdx_cons, List.zipIdx_nil, List.map_cons, List.map_nil, cellsAre_cons, cellsAre_nil, and_true, Nat.zero_add, Nat.reduceAdd] at hnb; clear hbo; simp only [Act.put, List.setIfInBounds_toArray, List.set_cons_zero, List.set_cons_succ])
            have nb0 : ¬ w.heap.size = b := by omega
            have nb1 : ¬ b = w.heap.size := by omega
            go_wp2_with fail
            refine abs_code (fun w' => Keeps (b + 1) [(⟨b, 0, none⟩, .int .i64 pt), (⟨b, 1, none⟩, .bool pc), (⟨b, 2, none⟩, .int .i64 ps), (⟨b, 3, none⟩, .int .i64 (v + 1)), (⟨w.heap.size, 0, none⟩, .int .i64 t), (⟨w.heap.size, 1, none⟩, .bool false), (⟨w.heap.size, 2, none⟩, .int .i64 s), (⟨w.heap.size, 3, none⟩, .int .i64 v)] w w') (by refine ⟨?_, by first | (simp; done) | (simp; omega) | omega, by first | (simp [List.forall_mem_cons]; done) | (simp [List.forall_mem_cons]; omega), by simp [cellsAre_cons, cellsAre_nil, go_sem, h4, hnb, nb0, nb1]⟩; (repeat (first | with_reducible apply Below.drew | with_reducible refine Below.setCell ?_ (by first | exact Nat.le_refl _ | (simp; done) | (simp; omega) | omega) _ | with_reducible refine Below.alloc ?_ (by first | exact Nat.le_refl _ | (simp; done) | (simp; omega) | omega) _ | with_reducible exact Below.refl _ _ | with_reducible assumption))) ?_
            intro w4 hk4
            clear hnb hbs h1 h2 h3 h4 hw
            refine wp_region_all (fun w' => Keeps (b + 1) [(⟨b, 0, none⟩, .int .i64 pt), (⟨b, 1, none⟩, .bool pc), (⟨b, 2, none⟩, .int .i64 ps), (⟨b, 3, none⟩, .int .i64 (v + 1)), (⟨w.heap.size, 0, none⟩, .int .i64 t), (⟨w.heap.size, 1, none⟩, .bool false), (⟨w.heap.size, 2, none⟩, .int .i64 s), (⟨w.heap.size, 3, none⟩, .int .i64 v)] w w') (by kernel_rfl) (by kernel_rfl) (by with_reducible apply Keeps.drew; with_reducible assumption) rfl ?_
            intro K T hK hT hT'
            simp only [List.map] at hK ⊢
            go_wp2_with (first
              | (apply SeqD.skip; rfl; simp only [Act.put, List.setIfInBounds_toArray, List.set_cons_zero, List.set_cons_succ])
              | (apply SeqD.call; rfl; rfl; (intro w2 hw; obtain ⟨h1, h2, h3, h4⟩ := hT _ hw; simp only [cellsAre_cons, cellsAre_nil, and_true] at h4; (have wv : IntKind.i64.wrap (v + 1) = v + 1 := IntWalk.i64_in _ (by omega)); go_simp; exact ⟨rfl, rfl⟩); (intro w2 hw; obtain ⟨h1, h2, h3, h4⟩ := hT _ hw; simp only [cellsAre_cons, cellsAre_nil, and_true] at h4; (have wv : IntKind.i64.wrap (v + 1) = v + 1 := IntWalk.i64_in _ (by omega)); (first | (go_at_call 30; refine (law_may _ _ _ _ _).mono ?_; rintro e w' ⟨rfl, hb⟩; exact ⟨rfl, hT' _ ((hT _ hw).below hb)⟩))); simp only [Act.put, List.setIfInBounds_toArray, List.set_cons_zero, List.set_cons_succ])
              | (apply SeqD.pure; rfl; (intro w2 hw; obtain ⟨h1, h2, h3, h4⟩ := hT _ hw; simp only [cellsAre_cons, cellsAre_nil, and_true] at h4; (have wv : IntKind.i64.wrap (v + 1) = v + 1 := IntWalk.i64_in _ (by omega)); go_simp; with_reducible rfl); simp only [Act.put, List.setIfInBounds_toArray, List.set_cons_zero, List.set_cons_succ])
              | (apply SeqD.split; rfl; rfl; all_goals (intro hc; simp only [hc]; try simp only [beq_iff_eq, decide_eq_true_eq, beq_eq_false_iff_ne, decide_eq_false_iff_not, bne_iff_ne, ne_eq, Bool.not_eq_true', Bool.not_eq_false', Int.not_le, Int.not_lt, bne_eq_false_iff_eq] at hc)))
            all_goals (apply SeqD.nil; refine hK _ ?_; intro w2 hw; obtain ⟨h1, h2, h3, h4⟩ := id hw; simp only [cellsAre_cons, cellsAre_nil, and_true] at h4; clear hT hT' hK)
            all_goals go_wp2_with fail
            all_goals first | (exfalso; omega) | (go_roundw; (case rel => exact ⟨k + 1, ⟨pt, pc, ps, (v + 1)⟩, by omega, by go_num, hmp, by refine ⟨?_, by first | (simp; done) | (simp; omega) | omega, by simp [List.forall_mem_cons], by simp [cellsAre_cons, cellsAre_nil, go_sem, h4, nb0, nb1] <;> (repeat' constructor) <;> first | assumption | omega | (symm; assumption) | simp_all⟩; (repeat (first | with_reducible apply Below.drew | with_reducible refine Below.setCell ?_ (by first | exact Nat.le_refl _ | (simp; done) | (simp; omega) | omega) _ | with_reducible refine Below.alloc ?_ (by first | exact Nat.le_refl _ | (simp; done) | (simp; omega) | omega) _ | with_reducible exact Below.refl _ _ | with_reducible assumption))⟩); (case measure => simp [intOf]; omega))
          have z1 : (t != 0) = true := by simpa using z0
          obtain rfl := ht0 z0
          clear ht0
          by_cases z3 : pt = 3
          · have z2 : (pt == 3) = true := by simp [z3]
            have hps := ht3 z3
            clear ht3 z3 z0
            go_wp2_with fail
            refine wp_region_fl 6 1 (.cells ([.int .i64 0, .bool false, .int .i64 0, .int .i64 0] : List Value).toArray 50) (w.heap.size + 1) (fun w' => Keeps (w.heap.size + 1) [(⟨w.heap.size, 0, none⟩, .int .i64 pt), (⟨w.heap.size, 1, none⟩, .bool false), (⟨w.heap.size, 2, none⟩, .int .i64 s), (⟨w.heap.size, 3, none⟩, .int .i64 v)] w w') (by kernel_rfl) (by kernel_rfl) rfl (by kernel_rfl) (by kernel_rfl) (by kernel_rfl) (by kernel_rfl) (by kernel_rfl) rfl ?_ (fun _ h => h.alloc _) (fun _ h => h.2.1) (by with_reducible apply Keeps.drew; with_reducible assumption) rfl ?_
            · intro ρ w'
              go_simp
            intro K T hK hT hT'
            simp only [List.map, List.take, List.drop] at hK ⊢
            go_wp2_with (first
              | (apply SeqB.skip; rfl; simp only [Act.put, List.setIfInBounds_toArray, List.set_cons_zero, List.set_cons_succ])
              | (apply SeqB.call; rfl; rfl; (intro w2 hw; obtain ⟨h1, h2, h3, h4⟩ := hT _ hw; simp only [cellsAre_cons, cellsAre_nil, and_true] at h4; (have e1 := (h1.cell (p := ⟨sb, so + k * 2, none⟩) hsb).trans g1; have e2 := (h1.cell (p := ⟨sb, so + k * 2 + 1, none⟩) hsb).trans g2); go_simp; exact ⟨rfl, rfl⟩); (intro w2 hw; obtain ⟨h1, h2, h3, h4⟩ := hT _ hw; simp only [cellsAre_cons, cellsAre_nil, and_true] at h4; (have e1 := (h1.cell (p := ⟨sb, so + k * 2, none⟩) hsb).trans g1; have e2 := (h1.cell (p := ⟨sb, so + k * 2 + 1, none⟩) hsb).trans g2); (first | (go_at_call 28; refine (HP.out _).mono ?_; rintro e w' ⟨rfl, hb⟩; exact ⟨rfl, hT' _ ((hT _ hw).below hb), hb⟩))); simp only [Act.put, List.setIfInBounds_toArray, List.set_cons_zero, List.set_cons_succ])
              | (apply SeqB.pure; rfl; (intro w2 hw; obtain ⟨h1, h2, h3, h4⟩ := hT _ hw; simp only [cellsAre_cons, cellsAre_nil, and_true] at h4; (have e1 := (h1.cell (p := ⟨sb, so + k * 2, none⟩) hsb).trans g1; have e2 := (h1.cell (p := ⟨sb, so + k * 2 + 1, none⟩) hsb).trans g2); go_simp; with_reducible rfl); simp only [Act.put, List.setIfInBounds_toArray, List.set_cons_zero, List.set_cons_succ])
              | (apply SeqB.split; rfl; rfl; all_goals (intro hc; simp only [hc]; try simp only [beq_iff_eq, decide_eq_true_eq, beq_eq_false_iff_ne, decide_eq_false_iff_not, bne_iff_ne, ne_eq, Bool.not_eq_true', Bool.not_eq_false', Int.not_le, Int.not_lt, bne_eq_false_iff_eq] at hc)))
            all_goals (apply SeqB.nil; refine hK _ ?_; clear hT hT' hK; intro b w2 hbB hw hbo; obtain ⟨h1, h2, h3, h4⟩ := id hw; simp only [cellsAre_cons, cellsAre_nil, and_true] at h4; have hnb := cellsAre_block hbo; have hbs : b < w2.heap.size := (Array.getElem?_eq_some_iff.1 hbo).1; simp only [List.zipIdx_cons, List.zipIdx_nil, List.map_cons, List.map_nil, cellsAre_cons, cellsAre_nil, and_true, Nat.zero_add, Nat.reduceAdd] at hnb; clear hbo; simp only [Act.put, List.setIfInBounds_toArray, List.set_cons_zero, List.set_cons_succ])
            have nb0 : ¬ w.heap.size = b := by omega
            have nb1 : ¬ b = w.heap.size := by omega
            go_wp2_with fail
            refine abs_code (fun w' => Keeps (b + 1) [(⟨b, 0, none⟩, .int .i64 pt), (⟨b, 1, none⟩, .bool pc), (⟨b, 2, none⟩, .int .i64 ps), (⟨b, 3, none⟩, .int .i64 (v + 1)), (⟨w.heap.size, 0, none⟩, .int .i64 pt), (⟨w.heap.size, 1, none⟩, .bool false), (⟨w.heap.size, 2, none⟩, .int .i64 s), (⟨w.heap.size, 3, none⟩, .int .i64 v)] w w') (by refine ⟨?_, by first | (simp; done) | (simp; omega) | omega, by first | (simp [List.forall_mem_cons]; done) | (simp [List.forall_mem_cons]; omega), by simp [cellsAre_cons, cellsAre_nil, go_sem, h4, hnb, nb0, nb1]⟩; (repeat (first | with_reducible apply Below.drew | with_reducible refine Below.setCell ?_ (by first | exact Nat.le_refl _ | (simp; done) | (simp; omega) | omega) _ | with_reducible refine Below.alloc ?_ (by first | exact Nat.le_refl _ | (simp; done) | (simp; omega) | omega) _ | with_reducible exact Below.refl _ _ | with_reducible assumption))) ?_
            intro w4 hk4
            clear hnb hbs h1 h2 h3 h4 hw
            refine wp_region_all (fun w' => Keeps (b + 1) [(⟨b, 0, none⟩, .int .i64 pt), (⟨b, 1, none⟩, .bool pc), (⟨b, 2, none⟩, .int .i64 ps), (⟨b, 3, none⟩, .int .i64 (v + 1)), (⟨w.heap.size, 0, none⟩, .int .i64 pt), (⟨w.heap.size, 1, none⟩, .bool false), (⟨w.heap.size, 2, none⟩, .int .i64 s), (⟨w.heap.size, 3, none⟩, .int .i64 v)] w w') (by kernel_rfl) (by kernel_rfl) (by with_reducible apply Keeps.drew; with_reducible assumption) rfl ?_
            intro K T hK hT hT'
            simp only [List.map] at hK ⊢
            go_wp2_with (first
              | (apply SeqD.skip; rfl; simp only [Act.put, List.setIfInBounds_toArray, List.set_cons_zero, List.set_cons_succ])
              | (apply SeqD.call; rfl; rfl; (intro w2 hw; obtain ⟨h1, h2, h3, h4⟩ := hT _ hw; simp only [cellsAre_cons, cellsAre_nil, and_true] at h4; (have wv : IntKind.i64.wrap (v + 1) = v + 1 := IntWalk.i64_in _ (by omega)); go_simp; exact ⟨rfl, rfl⟩); (intro w2 hw; obtain ⟨h1, h2, h3, h4⟩ := hT _ hw; simp only [cellsAre_cons, cellsAre_nil, and_true] at h4; (have wv : IntKind.i64.wrap (v + 1) = v + 1 := IntWalk.i64_in _ (by omega)); (first | (go_at_call 30; refine (law_may _ _ _ _ _).mono ?_; rintro e w' ⟨rfl, hb⟩; exact ⟨rfl, hT' _ ((hT _ hw).below hb)⟩))); simp only [Act.put, List.setIfInBounds_toArray, List.set_cons_zero, List.set_cons_succ])
              | (apply SeqD.pure; rfl; (intro w2 hw; obtain ⟨h1, h2, h3, h4⟩ := hT _ hw; simp only [cellsAre_cons, cellsAre_nil, and_true] at h4; (have wv : IntKind.i64.wrap (v + 1) = v + 1 := IntWalk.i64_in _ (by omega)); go_simp; with_reducible rfl); simp only [Act.put, List.setIfInBounds_toArray, List.set_cons_zero, List.set_cons_succ])
              | (apply SeqD.split; rfl; rfl; all_goals (intro hc; simp only [hc]; try simp only [beq_iff_eq, decide_eq_true_eq, beq_eq_false_iff_ne, decide_eq_false_iff_not, bne_iff_ne, ne_eq, Bool.not_eq_true', Bool.not_eq_false', Int.not_le, Int.not_lt, bne_eq_false_iff_eq] at hc)))
            all_goals (apply SeqD.nil; refine hK _ ?_; intro w2 hw; obtain ⟨h1, h2, h3, h4⟩ := id hw; simp only [cellsAre_cons, cellsAre_nil, and_true] at h4; clear hT hT' hK)
            all_goals go_wp2_with fail
            all_goals first | (exfalso; omega) | (go_roundw; (case rel => exact ⟨k + 1, ⟨pt, pc, ps, (v + 1)⟩, by omega, by go_num, hmp, by refine ⟨?_, by first | (simp; done) | (simp; omega) | omega, by simp [List.forall_mem_cons], by simp [cellsAre_cons, cellsAre_nil, go_sem, h4, nb0, nb1] <;> (repeat' constructor) <;> first | assumption | omega | (symm; assumption) | simp_all⟩; (repeat (first | with_reducible apply Below.drew | with_reducible refine Below.setCell ?_ (by first | exact Nat.le_refl _ | (simp; done) | (simp; omega) | omega) _ | with_reducible refine Below.alloc ?_ (by first | exact Nat.le_refl _ | (simp; done) | (simp; omega) | omega) _ | with_reducible exact Below.refl _ _ | with_reducible assumption))⟩); (case measure => simp [intOf]; omega))
          · have z2 : (pt == 3) = false := by simp [z3]
            clear ht3 z3 z0
            go_wp2_with fail
            refine wp_region_fl 6 1 (.cells ([.int .i64 0, .bool false, .int .i64 0, .int .i64 0] : List Value).toArray 50) (w.heap.size + 1) (fun w' => Keeps (w.heap.size + 1) [(⟨w.heap.size, 0, none⟩, .int .i64 pt), (⟨w.heap.size, 1, none⟩, .bool false), (⟨w.heap.size, 2, none⟩, .int .i64 s), (⟨w.heap.size, 3, none⟩, .int .i64 v)] w w') (by kernel_rfl) (by kernel_rfl) rfl (by kernel_rfl) (by kernel_rfl) (by kernel_rfl) (by kernel_rfl) (by kernel_rfl) rfl ?_ (fun _ h => h.alloc _) (fun _ h => h.2.1) (by with_reducible apply Keeps.drew; with_reducible assumption) rfl ?_
            · intro ρ w'
              go_simp
            intro K T hK hT hT'
            simp only [List.map, List.take, List.drop] at hK ⊢
            go_wp2_with (first
              | (apply SeqB.skip; rfl; simp only [Act.put, List.setIfInBounds_toArray, List.set_cons_zero, List.set_cons_succ])
              | (apply SeqB.call; rfl; rfl; (intro w2 hw; obtain ⟨h1, h2, h3, h4⟩ := hT _ hw; simp only [cellsAre_cons, cellsAre_nil, and_true] at h4; (have e1 := (h1.cell (p := ⟨sb, so + k * 2, none⟩) hsb).trans g1; have e2 := (h1.cell (p := ⟨sb, so + k * 2 + 1, none⟩) hsb).trans g2); go_simp; exact ⟨rfl, rfl⟩); (intro w2 hw; obtain ⟨h1, h2, h3, h4⟩ := hT _ hw; simp only [cellsAre_cons, cellsAre_nil, and_true] at h4; (have e1 := (h1.cell (p := ⟨sb, so + k * 2, none⟩) hsb).trans g1; have e2 := (h1.cell (p := ⟨sb, so + k * 2 + 1, none⟩) hsb).trans g2); (first | (go_at_call 28; refine (HP.out _).mono ?_; rintro e w' ⟨rfl, hb⟩; exact ⟨rfl, hT' _ ((hT _ hw).below hb), hb⟩))); simp only [Act.put, List.setIfInBounds_toArray, List.set_cons_zero, List.set_cons_succ])
              | (apply SeqB.pure; rfl; (intro w2 hw; obtain ⟨h1, h2, h3, h4⟩ := hT _ hw; simp only [cellsAre_cons, cellsAre_nil, and_true] at h4; (have e1 := (h1.cell (p := ⟨sb, so + k * 2, none⟩) hsb).trans g1; have e2 := (h1.cell (p := ⟨sb, so + k * 2 + 1, none⟩) hsb).trans g2); go_simp; with_reducible rfl); simp only [Act.put, List.setIfInBounds_toArray, List.set_cons_zero, List.set_cons_succ])
              | (apply SeqB.split; rfl; rfl; all_goals (intro hc; simp only [hc]; try simp only [beq_iff_eq, decide_eq_true_eq, beq_eq_false_iff_ne, decide_eq_false_iff_not, bne_iff_ne, ne_eq, Bool.not_eq_true', Bool.not_eq_false', Int.not_le, Int.not_lt, bne_eq_false_iff_eq] at hc)))
            all_goals (apply SeqB.nil; refine hK _ ?_; clear hT hT' hK; intro b w2 hbB hw hbo; obtain ⟨h1, h2, h3, h4⟩ := id hw; simp only [cellsAre_cons, cellsAre_nil, and_true] at h4; have hnb := cellsAre_block hbo; have hbs : b < w2.heap.size := (Array.getElem?_eq_some_iff.1 hbo).1; simp only [List.zipIdx_cons, List.zipIdx_nil, List.map_cons, List.map_nil, cellsAre_cons, cellsAre_nil, and_true, Nat.zero_add, Nat.reduceAdd] at hnb; clear hbo; simp only [Act.put, List.setIfInBounds_toArray, List.set_cons_zero, List.set_cons_succ])
            have nb0 : ¬ w.heap.size = b := by omega
            have nb1 : ¬ b = w.heap.size := by omega
            go_wp2_with fail
            refine abs_code (fun w' => Keeps (b + 1) [(⟨b, 0, none⟩, .int .i64 pt), (⟨b, 1, none⟩, .bool pc), (⟨b, 2, none⟩, .int .i64 ps), (⟨b, 3, none⟩, .int .i64 (v + 1)), (⟨w.heap.size, 0, none⟩, .int .i64 pt), (⟨w.heap.size, 1, none⟩, .bool false), (⟨w.heap.size, 2, none⟩, .int .i64 s), (⟨w.heap.size, 3, none⟩, .int .i64 v)] w w') (by refine ⟨?_, by first | (simp; done) | (simp; omega) | omega, by first | (simp [List.forall_mem_cons]; done) | (simp [List.forall_mem_cons]; omega), by simp [cellsAre_cons, cellsAre_nil, go_sem, h4, hnb, nb0, nb1]⟩; (repeat (first | with_reducible apply Below.drew | with_reducible refine Below.setCell ?_ (by first | exact Nat.le_refl _ | (simp; done) | (simp; omega) | omega) _ | with_reducible refine Below.alloc ?_ (by first | exact Nat.le_refl _ | (simp; done) | (simp; omega) | omega) _ | with_reducible exact Below.refl _ _ | with_reducible assumption))) ?_
            intro w4 hk4
            clear hnb hbs h1 h2 h3 h4 hw
            refine wp_region_all (fun w' => Keeps (b + 1) [(⟨b, 0, none⟩, .int .i64 pt), (⟨b, 1, none⟩, .bool pc), (⟨b, 2, none⟩, .int .i64 ps), (⟨b, 3, none⟩, .int .i64 (v + 1)), (⟨w.heap.size, 0, none⟩, .int .i64 pt), (⟨w.heap.size, 1, none⟩, .bool false), (⟨w.heap.size, 2, none⟩, .int .i64 s), (⟨w.heap.size, 3, none⟩, .int .i64 v)] w w') (by kernel_rfl) (by kernel_rfl) (by with_reducible apply Keeps.drew; with_reducible assumption) rfl ?_
            intro K T hK hT hT'
            simp only [List.map] at hK ⊢
            go_wp2_with (first
              | (apply SeqD.skip; rfl; simp only [Act.put, List.setIfInBounds_toArray, List.set_cons_zero, List.set_cons_succ])
              | (apply SeqD.call; rfl; rfl; (intro w2 hw; obtain ⟨h1, h2, h3, h4⟩ := hT _ hw; simp only [cellsAre_cons, cellsAre_nil, and_true] at h4; (have wv : IntKind.i64.wrap (v + 1) = v + 1 := IntWalk.i64_in _ (by omega)); go_simp; exact ⟨rfl, rfl⟩); (intro w2 hw; obtain ⟨h1, h2, h3, h4⟩ := hT _ hw; simp only [cellsAre_cons, cellsAre_nil, and_true] at h4; (have wv : IntKind.i64.wrap (v + 1) = v + 1 := IntWalk.i64_in _ (by omega)); (first | (go_at_call 30; refine (law_may _ _ _ _ _).mono ?_; rintro e w' ⟨rfl, hb⟩; exact ⟨rfl, hT' _ ((hT _ hw).below hb)⟩))); simp only [Act.put, List.setIfInBounds_toArray, List.set_cons_zero, List.set_cons_succ])
              | (apply SeqD.pure; rfl; (intro w2 hw; obtain ⟨h1, h2, h3, h4⟩ := hT _ hw; simp only [cellsAre_cons, cellsAre_nil, and_true] at h4; (have wv : IntKind.i64.wrap (v + 1) = v + 1 := IntWalk.i64_in _ (by omega)); go_simp; with_reducible rfl); simp only [Act.put, List.setIfInBounds_toArray, List.set_cons_zero, List.set_cons_succ])
              | (apply SeqD.split; rfl; rfl; all_goals (intro hc; simp only [hc]; try simp only [beq_iff_eq, decide_eq_true_eq, beq_eq_false_iff_ne, decide_eq_false_iff_not, bne_iff_ne, ne_eq, Bool.not_eq_true', Bool.not_eq_false', Int.not_le, Int.not_lt, bne_eq_false_iff_eq] at hc)))
            all_goals (apply SeqD.nil; refine hK _ ?_; intro w2 hw; obtain ⟨h1, h2, h3, h4⟩ := id hw; simp only [cellsAre_cons, cellsAre_nil, and_true] at h4; clear hT hT' hK)
            all_goals go_wp2_with fail
            all_goals first | (exfalso; omega) | (go_roundw; (case rel => exact ⟨k + 1, ⟨pt, pc, ps, (v + 1)⟩, by omega, by go_num, hmp, by refine ⟨?_, by first | (simp; done) | (simp; omega) | omega, by simp [List.forall_mem_cons], by simp [cellsAre_cons, cellsAre_nil, go_sem, h4, nb0, nb1] <;> (repeat' constructor) <;> first | assumption | omega | (symm; assumption) | simp_all⟩; (repeat (first | with_reducible apply Below.drew | with_reducible refine Below.setCell ?_ (by first | exact Nat.le_refl _ | (simp; done) | (simp; omega) | omega) _ | with_reducible refine Below.alloc ?_ (by first | exact Nat.le_refl _ | (simp; done) | (simp; omega) | omega) _ | with_reducible exact Below.refl _ _ | with_reducible assumption))⟩); (case measure => simp [intOf]; omega))
      · have hlt' : decide ((k : Int) < (n : Int)) = false := by simp; omega
        obtain ⟨h1, h2, h3, h4⟩ := id hk
        go_wp2_with fail
        refine (works_any _).mono ?_
        rintro e w2 ⟨rfl, hb⟩
        go_wp2_with fail
        go_ret
        exact ⟨rfl, h1.trans (hb.mono h1.size)⟩

theorem law_stay (t s v : Int) (c : Bool) (sl : Value) (n : Nat) (ev : Nat → Ev) (w : World) (hs : EvRow w sl n ev) :
    Calls Try.prog 10 #[.agg #[.int .i64 t, .bool c, .int .i64 s, .int .i64 v], sl] w fun e w' => e = .returned (.bool true) ∧ Below w.heap.size w w' := by
  by_cases h : 1000 < n ∨ mayS ⟨t, c, s, v⟩ = false
  · exact stay_out t s v c sl n ev w hs h
  · have hm : mayS ⟨t, c, s, v⟩ = true := by
      cases hx : mayS ⟨t, c, s, v⟩
      · exact absurd (.inr hx) h
      · rfl
    exact stay_in t s v c sl n ev w hs (by omega) hm
end Go.Proofs.Ytigkfekidmjpbaa
