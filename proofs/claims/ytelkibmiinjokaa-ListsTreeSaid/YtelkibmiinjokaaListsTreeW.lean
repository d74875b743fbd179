/-
  The walk over the statement 'ListsTree'.
-/
import Derived.Test.YtelkibmiinjokaaWorks14
set_option linter.unusedSimpArgs false
set_option linter.unusedVariables false
set_option maxRecDepth 100000
namespace Go.Proofs.Ytelkibmiinjokaa
open Go.RowKit Go.Sq Go.Wd

theorem take_pre (l : List Ent) (i j : Nat) (hi : i ≤ l.length) : decide (l.take i <+: l.take j) = decide (i ≤ min j l.length) := by
  rw [Bool.eq_iff_iff, decide_eq_true_eq, decide_eq_true_eq]
  constructor
  · intro h
    have := h.length_le
    rw [List.length_take, List.length_take] at this
    omega
  · intro h
    rw [List.prefix_iff_eq_take, List.take_take, List.length_take]
    congr 1
    omega
theorem take_pre_self (l : List Ent) (i : Nat) : decide (l.take i <+: l) = true := by simpa using List.take_prefix i l
theorem take_common (l : List Ent) (i j : Nat) (hi : i ≤ l.length) (hj : j ≤ l.length) : commonL (l.take i) (l.take j) = min i j := by
  refine common_is _ _ _ (by rw [List.length_take]; omega) (by rw [List.length_take]; omega) ?_ ?_
  · rw [List.take_take, List.take_take]; congr 1; omega
  · rw [List.length_take, List.length_take]; omega

set_option maxHeartbeats 2000000 in
theorem listsTree_walk (l : List Ent) (A : Option Addr) (c : Nat) (x y : Int) (hx : 0 ≤ x ∧ x ≤ 65535) (hy : 0 ≤ y ∧ y ≤ 65535) (v : Value) (hv : v = .agg #[.int .u16 x, .int .u16 y]) (w : World) (ha : Ents w w.heap.size A l) (hl : l.length ≤ 9223372036854775807) (kc : l.length ≤ c) (kc2 : c ≤ 9223372036854775807) :
    Calls Try.prog 7 #[.slice A l.length c, v] w fun e w' => e = .returned (.bool true) ∧ Below w.heap.size w w' := by
  subst hv
  have hw := Below.refl w.heap.size w
  have EA : ∀ {w' : World}, Below w.heap.size w w' → Ents w' w'.heap.size A l := fun h => (ha.below h).more h.size
  have HK := Lib.hid (And.intro kc kc2)
  clear ha kc
  by_cases h1 : 500 < l.length
  · go_enter Try.func7, Try.ntmps7
    go_wp2_with fail
    go_ret
    exact ⟨rfl, hw.alloc hw.size _⟩
  have l1 : l.length ≤ 500 := by omega
  go_enter Try.func7, Try.ntmps7
  obtain ⟨x0, x1⟩ := hx
  obtain ⟨y0, y1⟩ := hy
  have wx : IntKind.i64.wrap x = x := IntWalk.i64_in _ (by omega)
  have wy : IntKind.i64.wrap y = y := IntWalk.i64_in _ (by omega)
  have wl : IntKind.i64.wrap ((l.length : Int) + 1) = (l.length : Int) + 1 := IntWalk.i64_in _ (by omega)
  have nz : ¬ (l.length : Int) + 1 = 0 := by omega
  obtain ⟨i, hi, hil⟩ : ∃ i : Nat, x.tmod ((l.length : Int) + 1) = i ∧ i ≤ l.length := ⟨(x % ((l.length : Int) + 1)).toNat, by rw [Int.tmod_eq_emod_of_nonneg x0]; have := Int.emod_nonneg x (show (l.length : Int) + 1 ≠ 0 by omega); omega, by have := Int.emod_lt_of_pos x (show 0 < (l.length : Int) + 1 by omega); omega⟩
  obtain ⟨j, hj, hjl⟩ : ∃ i : Nat, y.tmod ((l.length : Int) + 1) = i ∧ i ≤ l.length := ⟨(y % ((l.length : Int) + 1)).toNat, by rw [Int.tmod_eq_emod_of_nonneg y0]; have := Int.emod_nonneg y (show (l.length : Int) + 1 ≠ 0 by omega); omega, by have := Int.emod_lt_of_pos y (show 0 < (l.length : Int) + 1 by omega); omega⟩
  have hxm : x % ((l.length : Int) + 1) = i := by rw [← hi, Int.tmod_eq_emod_of_nonneg x0]
  have hym : y % ((l.length : Int) + 1) = j := by rw [← hj, Int.tmod_eq_emod_of_nonneg y0]
  have wi : IntKind.i64.wrap (i : Int) = i := IntWalk.i64_in _ (by omega)
  have wj : IntKind.i64.wrap (j : Int) = j := IntWalk.i64_in _ (by omega)
  have hic : i ≤ c := by have := HK.out; omega
  have hjc : j ≤ c := by have := HK.out; omega
  go_wp2_with fail
  refine wp_region_p ([(0, true), (1, true), (2, true), (3, true), (4, true), (5, true), (6, true), (7, true), (8, true), (9, true), (10, true), (11, true), (12, true), (13, true), (14, true), (15, true), (16, true), (17, true), (18, true), (19, true)]) (fun w' => Below w.heap.size w w' ∧ Blk w' w.heap.size 36 [.int .u16 x, .int .u16 y]) (by kernel_rfl) rfl (by kernel_rfl) (by kernel_rfl) (⟨by (repeat (first | with_reducible apply Below.drew | with_reducible refine Below.setCell ?_ (by first | exact Nat.le_refl _ | (simp; done) | (simp; omega) | omega) _ | with_reducible refine Below.alloc ?_ (by first | exact Nat.le_refl _ | (simp; done) | (simp; omega) | omega) _ | with_reducible exact Below.refl _ _ | with_reducible assumption)), Blk.new w 36 [.int .u16 x, .int .u16 y]⟩) rfl ?_
  intro KP RP TP hKP hTP hTP'
  simp only [pick, nth]
  go_wp2_with (first
    | (apply SeqP.skip; rfl; simp only [Act.put, List.setIfInBounds_toArray, List.set_cons_zero, List.set_cons_succ])
    | (apply SeqP.call; rfl; rfl; (intro w2 hw; have hw := hTP _ hw; ((have q0 := hw.2.cell 0; have q1 := hw.2.cell 1; simp at q0 q1)); go_simp; exact ⟨rfl, rfl⟩); (intro w2 hw; have hw := hTP _ hw; ((have q0 := hw.2.cell 0; have q1 := hw.2.cell 1; simp at q0 q1)); (first | fail)); simp only [Act.put, List.setIfInBounds_toArray, List.set_cons_zero, List.set_cons_succ])
    | (apply SeqP.pure; rfl; (intro w2 hw; have hw := hTP _ hw; ((have q0 := hw.2.cell 0; have q1 := hw.2.cell 1; simp at q0 q1)); go_simp; with_reducible rfl); simp only [Act.put, List.setIfInBounds_toArray, List.set_cons_zero, List.set_cons_succ])
    | (apply SeqP.split; rfl; rfl; all_goals (intro hc; simp only [hc]; try simp only [beq_iff_eq, decide_eq_true_eq, beq_eq_false_iff_ne, decide_eq_false_iff_not, bne_iff_ne, ne_eq, Bool.not_eq_true', Bool.not_eq_false', Int.not_le, Int.not_lt, bne_eq_false_iff_eq, Bool.or_eq_true, Bool.and_eq_true, Bool.or_eq_false_iff] at hc)))
  apply SeqP.nil
  refine hKP _ _ (hTP' _ (⟨by (repeat (first | with_reducible apply Below.drew | with_reducible refine Below.setCell ?_ (by first | exact Nat.le_refl _ | (simp; done) | (simp; omega) | omega) _ | with_reducible refine Below.alloc ?_ (by first | exact Nat.le_refl _ | (simp; done) | (simp; omega) | omega) _ | with_reducible exact Below.refl _ _ | with_reducible assumption)), Blk.new w 36 [.int .u16 x, .int .u16 y]⟩)) ?_
  clear hKP hTP hTP'
  clear hxm hym hi hj nz wx wy wl wi wj x0 x1 y0 y1
  have hlc := HK.out.1
  have li : (l.take i).length = i := by rw [List.length_take]; omega
  have lj : (l.take j).length = j := by rw [List.length_take]; omega
  have HL := Lib.hid (And.intro li lj)
  clear li lj hlc
  refine abs_at (fun W => Below w.heap.size w W) (by (repeat (first | with_reducible apply Below.drew | with_reducible refine Below.setCell ?_ (by first | exact Nat.le_refl _ | (simp; done) | (simp; omega) | omega) _ | with_reducible refine Below.alloc ?_ (by first | exact Nat.le_refl _ | (simp; done) | (simp; omega) | omega) _ | with_reducible exact Below.refl _ _ | with_reducible assumption))) ?_
  intro w1 hw1
  have P1 := prefix_any (l.take i) l A A c c _ ((EA hw1).take i) (EA hw1) (by rw [HL.out.1]; omega) (by omega) HK.out.1 kc2
  rw [HL.out.1, take_pre_self] at P1
  go_wp2_with fail
  refine P1.mono ?_
  clear P1
  rintro e w2 ⟨rfl, hb⟩
  have hw2 := below_trans hw1 hb hw1.size
  clear hb
  have P1 := prefix_any (l.take j) l A A c c _ ((EA hw2).take j) (EA hw2) (by rw [HL.out.2]; omega) (by omega) HK.out.1 kc2
  rw [HL.out.2, take_pre_self] at P1
  go_wp2_with fail
  refine P1.mono ?_
  clear P1
  rintro e w3 ⟨rfl, hb⟩
  have hw3 := below_trans hw2 hb hw2.size
  clear hb
  have P1 := prefix_any (l.take i) (l.take j) A A c c _ ((EA hw3).take i) ((EA hw3).take j) (by rw [HL.out.1]; omega) (by rw [HL.out.2]; omega) (by rw [HL.out.2]; omega) kc2
  rw [HL.out.1, HL.out.2, take_pre l i j hil] at P1
  go_wp2_with fail
  refine P1.mono ?_
  clear P1
  rintro e w4 ⟨rfl, hb⟩
  have hw4 := below_trans hw3 hb hw3.size
  clear hb
  have P1 := prefix_any (l.take j) (l.take i) A A c c _ ((EA hw4).take j) ((EA hw4).take i) (by rw [HL.out.2]; omega) (by rw [HL.out.1]; omega) (by rw [HL.out.1]; omega) kc2
  rw [HL.out.1, HL.out.2, take_pre l j i hjl] at P1
  have e1 : decide (i ≤ min j l.length) = decide ((i : Int) ≤ (j : Int)) := by rw [Bool.eq_iff_iff]; simp; omega
  have e2 : decide (j ≤ min i l.length) = decide ((j : Int) ≤ (i : Int)) := by rw [Bool.eq_iff_iff]; simp; omega
  rw [e2] at P1
  rw [e1]
  clear e1 e2
  have C1 := fun (w5 : World) (hw5 : Below w.heap.size w w5) => common_any (l.take i) (l.take j) A A c c w5 ((EA hw5).take i) ((EA hw5).take j) (by rw [HL.out.1]; omega) (by rw [HL.out.2]; omega)
  have hmin : commonL (l.take i) (l.take j) = min i j := take_common l i j hil hjl
  rw [HL.out.1, HL.out.2, hmin] at C1
  have HC := Lib.hid (And.intro P1 C1)
  clear P1 C1 hmin
  go_wp2_with fail
  refine HC.out.1.mono ?_
  rintro e w5 ⟨rfl, hb⟩
  have hw5 := below_trans hw4 hb hw4.size
  clear hb
  go_wp2_with fail
  refine (HC.out.2 w5 hw5).mono ?_
  rintro e w6 ⟨rfl, hb⟩
  have hw6 := below_trans hw5 hb hw5.size
  clear hb
  rcases Nat.lt_trichotomy i j with hlt | heq | hgt
  · rw [show min i j = i from by omega]
    have hle : i ≤ j := by omega
    go_wp2_with fail
    all_goals
      refine (works_any _).mono ?_
      rintro e wz ⟨rfl, hb⟩
      go_wp2_with fail
      go_ret
      exact ⟨rfl, below_trans hw6 hb hw6.size⟩
  · have HE := Lib.hid heq
    clear heq HL HC
    obtain rfl : i = j := HE.out
    rw [show min i i = i from by omega]
    go_wp2_with fail
    all_goals
      refine (works_any _).mono ?_
      rintro e wz ⟨rfl, hb⟩
      go_wp2_with fail
      go_ret
      exact ⟨rfl, below_trans hw6 hb hw6.size⟩
  · rw [show min i j = j from by omega]
    have hle : ¬ i ≤ j := by omega
    go_wp2_with fail
    all_goals
      refine (works_any _).mono ?_
      rintro e wz ⟨rfl, hb⟩
      go_wp2_with fail
      go_ret
      exact ⟨rfl, below_trans hw6 hb hw6.size⟩
end Go.Proofs.Ytelkibmiinjokaa
