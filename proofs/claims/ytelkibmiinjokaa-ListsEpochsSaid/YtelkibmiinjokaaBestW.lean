/-
  The walks over MaxFunc and Index, of ranks.
-/
import Derived.Test.YtelkibmiinjokaaBest
set_option linter.unusedSimpArgs false
set_option linter.unusedVariables false
set_option maxRecDepth 100000
namespace Go.Proofs.Ytelkibmiinjokaa
open Go.RowKit Go.Sq Go.Wd

def RanksAt (w : World) (g : Nat) (l : List Rank) : Prop := ∀ i r, l[i]? = some r → w.cell? ⟨g, i * 2, none⟩ = some (.int .i64 r.1) ∧ w.cell? ⟨g, i * 2 + 1, none⟩ = some (.int .i64 r.2)

theorem RanksAt.below {w w' : World} {B g : Nat} {l : List Rank} (h : RanksAt w g l) (hg : g < B) (hb : Below B w w') : RanksAt w' g l := fun i r hi =>
  ⟨(hb.cell (p := ⟨g, _, none⟩) hg).trans (h i r hi).1, (hb.cell (p := ⟨g, _, none⟩) hg).trans (h i r hi).2⟩

def rv (r : Rank) : List Value := [.int .i64 r.1, .int .i64 r.2]

set_option maxHeartbeats 1000000 in
theorem max_any (l : List Rank) (g c : Nat) (w : World) (hr : RanksAt w g l) (hg : g < w.heap.size) (h0 : 0 < l.length) (hl : l.length ≤ 200) :
    Calls Try.prog 39 #[.slice (some ⟨g, 0, none⟩) l.length c, .func (.func 40) #[] #[]] w fun e w' => ∃ m, l[bestTo l (l.length - 1)]? = some m ∧ e = .returned (.agg #[.int .i64 m.1, .int .i64 m.2]) ∧ Below w.heap.size w w' := by
  have hw : Below w.heap.size w w := Below.refl _ _
  have H := Lib.hid hr
  obtain ⟨x0, hx0⟩ : ∃ x, l[0]? = some x := ⟨_, List.getElem?_eq_getElem h0⟩
  have c0 := (hr 0 x0 hx0).1
  have c1 := (hr 0 x0 hx0).2
  simp only [Nat.zero_mul, Nat.zero_add] at c0 c1
  have HX := Lib.hid hx0
  clear hx0 hr
  go_enter Try.func39, Try.ntmps39
  go_wp2_with fail
  go_loopg [6] (l.length - 1) (fun k i wr => ∃ (j : Nat) (m : Rank), k = l.length - (j + 1) ∧ j < l.length ∧ i = .int .i64 (j + 1) ∧ l[bestTo l j]? = some m ∧ Below w.heap.size w wr ∧ Blk wr w.heap.size 74 [.int .i64 0, .int .i64 0] ∧ Blk wr (w.heap.size + 1) 74 (rv m))
  case atStart => exact ⟨0, x0, rfl, by omega, rfl, HX.out, (hw.alloc hw.size _).alloc (by simp) _, (Blk.new w _ [_, _]).alloc _, Blk.new1 w _ _ [_, _]⟩
  case round =>
    clear hw c0 c1
    obtain ⟨j, m, hk, hj, rfl, hm, hwr, hB0, hB1⟩ := hrel
    have AA : Aside (gk = l.length - (j + 1) ∧ l[bestTo l j]? = some m) := ⟨hk, hm⟩
    clear hk hm
    by_cases hlt : j + 1 < l.length
    · obtain ⟨x, hx⟩ : ∃ x, l[j + 1]? = some x := ⟨_, List.getElem?_eq_getElem hlt⟩
      have FA : ∀ w', Below w.heap.size w w' → w'.cell? ⟨g, (j + 1) * 2, none⟩ = some (.int .i64 x.1) ∧ w'.cell? ⟨g, (j + 1) * 2 + 1, none⟩ = some (.int .i64 x.2) := fun w' hw' => (H.out.below hg hw') _ _ hx
      have HX2 := Lib.hid hx
      clear hx
      have i0 : (0 : Int) ≤ (j : Int) + 1 := by omega
      have i1 : (j : Int) + 1 < (l.length : Int) := by omega
      have hle := hwr.size
      go_wp2_with fail
      refine wp_region_p ([(0, true), (1, true), (2, true), (3, true), (4, true), (5, true), (6, false), (7, true)]) (fun w' => Below w.heap.size w w' ∧ Blk w' w.heap.size 74 [.int .i64 0, .int .i64 0] ∧ Blk w' (w.heap.size + 1) 74 (rv m)) (by kernel_rfl) rfl (by kernel_rfl) (by kernel_rfl) (⟨hwr.drew, hB0, hB1⟩) rfl ?_
      intro KP RP TP hKP hTP hTP'
      simp only [pick, nth]
      go_wp2_with (first
        | (apply SeqP.skip; rfl; simp only [Act.put, List.setIfInBounds_toArray, List.set_cons_zero, List.set_cons_succ])
        | (apply SeqP.call; rfl; rfl; (intro w2 hw; have hw := hTP _ hw; ((obtain ⟨q0, q1⟩ := FA _ hw.1; have q2 := hw.2.2.cell 0; have q3 := hw.2.2.cell 1; simp [rv] at q2 q3)); go_simp; exact ⟨rfl, rfl⟩); (intro w2 hw; have hw := hTP _ hw; ((obtain ⟨q0, q1⟩ := FA _ hw.1; have q2 := hw.2.2.cell 0; have q3 := hw.2.2.cell 1; simp [rv] at q2 q3)); (first | fail)); simp only [Act.put, List.setIfInBounds_toArray, List.set_cons_zero, List.set_cons_succ])
        | (apply SeqP.pure; rfl; (intro w2 hw; have hw := hTP _ hw; ((obtain ⟨q0, q1⟩ := FA _ hw.1; have q2 := hw.2.2.cell 0; have q3 := hw.2.2.cell 1; simp [rv] at q2 q3)); go_simp; with_reducible rfl); simp only [Act.put, List.setIfInBounds_toArray, List.set_cons_zero, List.set_cons_succ])
        | (apply SeqP.split; rfl; rfl; all_goals (intro hc; simp only [hc]; try simp only [beq_iff_eq, decide_eq_true_eq, beq_eq_false_iff_ne, decide_eq_false_iff_not, bne_iff_ne, ne_eq, Bool.not_eq_true', Bool.not_eq_false', Int.not_le, Int.not_lt, bne_eq_false_iff_eq, Bool.or_eq_true, Bool.and_eq_true, Bool.or_eq_false_iff] at hc)))
      apply SeqP.eff
      · rfl
      intro KE hKE
      go_wp2_with fail
      refine (rank_any x.1 x.2 m.1 m.2 _).mono ?_
      rintro e w1 ⟨rfl, hb⟩
      have hw1 := below_trans hwr.drew hb hwr.size
      have hB0' := hB0.drew.keep hb
      have hB1' := hB1.drew.keep hb
      refine hKE _ _ (hTP' _ ⟨hw1, hB0', hB1'⟩) ?_
      clear hKE hb hB0 hB1 hwr
      have hp := rank_pos x m
      by_cases hbt : Better x m
      · have hz : 0 < rankL x.1 x.2 m.1 m.2 := hp.2 hbt
        clear hp
        generalize rankL x.1 x.2 m.1 m.2 = z at hz ⊢
        go_wp2_with (first
          | (apply SeqP.skip; rfl; simp only [Act.put, List.setIfInBounds_toArray, List.set_cons_zero, List.set_cons_succ])
          | (apply SeqP.call; rfl; rfl; (intro w2 hw; have hw := hTP _ hw; (skip); go_simp; exact ⟨rfl, rfl⟩); (intro w2 hw; have hw := hTP _ hw; (skip); (first | fail)); simp only [Act.put, List.setIfInBounds_toArray, List.set_cons_zero, List.set_cons_succ])
          | (apply SeqP.pure; rfl; (intro w2 hw; have hw := hTP _ hw; (skip); go_simp; with_reducible rfl); simp only [Act.put, List.setIfInBounds_toArray, List.set_cons_zero, List.set_cons_succ])
          | (apply SeqP.split; rfl; rfl; all_goals (intro hc; simp only [hc]; try simp only [beq_iff_eq, decide_eq_true_eq, beq_eq_false_iff_ne, decide_eq_false_iff_not, bne_iff_ne, ne_eq, Bool.not_eq_true', Bool.not_eq_false', Int.not_le, Int.not_lt, bne_eq_false_iff_eq, Bool.or_eq_true, Bool.and_eq_true, Bool.or_eq_false_iff] at hc)))
        apply SeqP.nil
        refine hKP _ _ (hTP' _ (⟨hw1, hB0', hB1'⟩)) ?_
        clear hKP hTP hTP'
        obtain ⟨q0, q1⟩ := FA _ hw1
        have f0 := hB1'.frozen
        have q2 := hB1'.cell 0
        have q3 := hB1'.cell 1
        simp [rv] at q2 q3
        clear FA
        have hle1 := hw1.size
        have hlt1 := hB1'.lt
        go_wp2_with fail
        go_roundg (l.length - (j + 1 + 1))
        case measure => have hkk := AA.out.1; omega
        case rel =>
          refine ⟨j + 1, x, rfl, by omega, by go_num, by rw [best_yes HX2.out AA.out.2 hbt]; exact HX2.out, by (repeat (first | with_reducible apply Below.drew | with_reducible refine Below.setCell ?_ (by first | exact Nat.le_refl _ | (simp; done) | (simp; omega) | omega) _ | with_reducible refine Below.alloc ?_ (by first | exact Nat.le_refl _ | (simp; done) | (simp; omega) | omega) _ | with_reducible exact Below.refl _ _ | with_reducible assumption)), ?_, ?_⟩
          · exact (hB0'.far (by simp) _).far (by simp) _
          · exact ((hB1'.set 0 _).set 1 _).of_eq rfl
      · have hz : rankL x.1 x.2 m.1 m.2 ≤ 0 := by
          have : ¬ 0 < rankL x.1 x.2 m.1 m.2 := fun h => hbt (hp.1 h)
          omega
        clear hp
        generalize rankL x.1 x.2 m.1 m.2 = z at hz ⊢
        go_wp2_with (first
          | (apply SeqP.skip; rfl; simp only [Act.put, List.setIfInBounds_toArray, List.set_cons_zero, List.set_cons_succ])
          | (apply SeqP.call; rfl; rfl; (intro w2 hw; have hw := hTP _ hw; (skip); go_simp; exact ⟨rfl, rfl⟩); (intro w2 hw; have hw := hTP _ hw; (skip); (first | fail)); simp only [Act.put, List.setIfInBounds_toArray, List.set_cons_zero, List.set_cons_succ])
          | (apply SeqP.pure; rfl; (intro w2 hw; have hw := hTP _ hw; (skip); go_simp; with_reducible rfl); simp only [Act.put, List.setIfInBounds_toArray, List.set_cons_zero, List.set_cons_succ])
          | (apply SeqP.split; rfl; rfl; all_goals (intro hc; simp only [hc]; try simp only [beq_iff_eq, decide_eq_true_eq, beq_eq_false_iff_ne, decide_eq_false_iff_not, bne_iff_ne, ne_eq, Bool.not_eq_true', Bool.not_eq_false', Int.not_le, Int.not_lt, bne_eq_false_iff_eq, Bool.or_eq_true, Bool.and_eq_true, Bool.or_eq_false_iff] at hc)))
        apply SeqP.nil
        refine hKP _ _ (hTP' _ (⟨hw1, hB0', hB1'⟩)) ?_
        clear hKP hTP hTP'
        clear FA
        go_wp2_with fail
        go_roundg (l.length - (j + 1 + 1))
        case measure => have hkk := AA.out.1; omega
        case rel => exact ⟨j + 1, m, rfl, by omega, by go_num, by rw [best_no HX2.out AA.out.2 hbt]; exact AA.out.2, hw1, hB0', hB1'⟩
    · have hjl : l.length - 1 = j := by omega
      have q0 := hB0.cell 0
      have q1 := hB0.cell 1
      have q2 := hB1.cell 0
      have q3 := hB1.cell 1
      simp [rv] at q0 q1 q2 q3
      have f0 := hB0.frozen
      have hlt0 := hB0.lt
      have HJ := Lib.hid hjl
      clear hjl
      go_wp2_with fail
      apply ret_of
      · simp only [results, Try.results39]
        go_simp
        with_reducible rfl
      refine ⟨rfl, m, by rw [HJ.out]; exact AA.out.2, rfl, ?_⟩
      (repeat (first | with_reducible apply Below.drew | with_reducible refine Below.setCell ?_ (by first | exact Nat.le_refl _ | (simp; done) | (simp; omega) | omega) _ | with_reducible refine Below.alloc ?_ (by first | exact Nat.le_refl _ | (simp; done) | (simp; omega) | omega) _ | with_reducible exact Below.refl _ _ | with_reducible assumption))

theorem eql_rank (w : World) (e f : Rank) : (binOp .eql 74 (.agg (rv e).toArray) (.agg (rv f).toArray)).run Try.prog w = .ok (.bool (decide (e = f))) w := by
  obtain ⟨e0, e1⟩ := e
  obtain ⟨f0, f1⟩ := f
  have g0 := Try.underlying74
  simp [rv, go_sem]
  (repeat' split) <;> simp_all

set_option maxHeartbeats 1000000 in
theorem index_any (l : List Rank) (m : Rank) (k g c : Nat) (w : World) (hr : RanksAt w g l) (hg : g < w.heap.size) (hl : l.length ≤ 200) (hk : l[k]? = some m) (hf : ∀ i x, i < k → l[i]? = some x → x ≠ m) :
    Calls Try.prog 38 #[.slice (some ⟨g, 0, none⟩) l.length c, .agg #[.int .i64 m.1, .int .i64 m.2]] w fun e w' => e = .returned (.int .i64 k) ∧ Below w.heap.size w w' := by
  have H := Lib.hid (And.intro hr (And.intro hk hf))
  have hkl : k < l.length := (List.getElem?_eq_some_iff.1 hk).1
  clear hr hk hf
  go_enter Try.func38, Try.ntmps38
  have hw := Below.refl w.heap.size w
  go_wp2_with fail
  go_loopg [8] l.length (fun q i wr => ∃ j : Nat, q = l.length - j ∧ j ≤ k ∧ i = .int .i64 j ∧ Below w.heap.size w wr ∧ Blk wr w.heap.size 74 (rv m))
  case atStart => exact ⟨0, rfl, by omega, rfl, hw.alloc hw.size _, Blk.new w _ [_, _]⟩
  case round =>
    clear hw
    obtain ⟨j, hq, hj, rfl, hwr, hB⟩ := hrel
    have AA : Aside (gk = l.length - j) := hq
    clear hq
    have hlt : j < l.length := by omega
    obtain ⟨x, hx⟩ : ∃ x, l[j]? = some x := ⟨_, List.getElem?_eq_getElem hlt⟩
    have FA : ∀ w', Below w.heap.size w w' → w'.cell? ⟨g, j * 2, none⟩ = some (.int .i64 x.1) ∧ w'.cell? ⟨g, j * 2 + 1, none⟩ = some (.int .i64 x.2) := fun w' hw' => (H.out.1.below hg hw') _ _ hx
    have HX2 := Lib.hid hx
    clear hx
    go_wp2_with fail
    refine wp_region_p ([(0, true), (1, true), (2, true), (3, true), (4, true), (5, true)]) (fun w' => Below w.heap.size w w' ∧ Blk w' w.heap.size 74 (rv m)) (by kernel_rfl) rfl (by kernel_rfl) (by kernel_rfl) (⟨hwr.drew, hB⟩) rfl ?_
    intro KP RP TP hKP hTP hTP'
    simp only [pick, nth]
    go_wp2_with (first
      | (apply SeqP.skip; rfl; simp only [Act.put, List.setIfInBounds_toArray, List.set_cons_zero, List.set_cons_succ])
      | (apply SeqP.aggbin; (with_reducible rfl); (with_reducible exact Try.eqGuardType74); rfl; rfl; rfl; (exact (fun w => eql_rank w m x)); simp only [Act.put, List.setIfInBounds_toArray, List.set_cons_zero, List.set_cons_succ])
      | (apply SeqP.call; rfl; rfl; (intro w2 hw; have hw := hTP _ hw; ((obtain ⟨q0, q1⟩ := FA _ hw.1; have q2 := hw.2.cell 0; have q3 := hw.2.cell 1; simp [rv] at q2 q3)); go_simp; exact ⟨rfl, rfl⟩); (intro w2 hw; have hw := hTP _ hw; ((obtain ⟨q0, q1⟩ := FA _ hw.1; have q2 := hw.2.cell 0; have q3 := hw.2.cell 1; simp [rv] at q2 q3)); (first | fail)); simp only [Act.put, List.setIfInBounds_toArray, List.set_cons_zero, List.set_cons_succ])
      | (apply SeqP.pure; rfl; (intro w2 hw; have hw := hTP _ hw; ((obtain ⟨q0, q1⟩ := FA _ hw.1; have q2 := hw.2.cell 0; have q3 := hw.2.cell 1; simp [rv] at q2 q3)); go_simp; with_reducible rfl); simp only [Act.put, List.setIfInBounds_toArray, List.set_cons_zero, List.set_cons_succ])
      | (apply SeqP.split; rfl; rfl; all_goals (intro hc; simp only [hc]; try simp only [beq_iff_eq, decide_eq_true_eq, beq_eq_false_iff_ne, decide_eq_false_iff_not, bne_iff_ne, ne_eq, Bool.not_eq_true', Bool.not_eq_false', Int.not_le, Int.not_lt, bne_eq_false_iff_eq, Bool.or_eq_true, Bool.and_eq_true, Bool.or_eq_false_iff] at hc)))
    apply SeqP.nil
    refine hKP _ _ (hTP' _ (⟨hwr.drew, hB⟩)) ?_
    clear hKP hTP hTP'
    clear FA
    by_cases hxm : m = x
    · subst hxm
      have hjk : j = k := by
        rcases Nat.lt_or_ge j k with h | h
        · exact absurd rfl (H.out.2.2 j m h HX2.out)
        · omega
      subst hjk
      go_wp2_with fail
      go_ret
      exact ⟨rfl, hwr.drew⟩
    · have hjk : j < k := by
        rcases Nat.lt_or_ge j k with h | h
        · exact h
        · exfalso
          have hjk : j = k := by omega
          subst hjk
          have e1 := HX2.out
          rw [H.out.2.1] at e1
          exact hxm (Option.some.inj e1)
      go_wp2_with fail
      go_roundg (l.length - (j + 1))
      case measure => have hkk := AA.out; omega
      case rel => exact ⟨j + 1, rfl, by omega, by go_num, hwr.drew, hB⟩
end Go.Proofs.Ytelkibmiinjokaa
