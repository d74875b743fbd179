/-
  The walks over Seals.
-/
import Derived.Test.YtelkibmiinjokaaLists3
set_option linter.unusedSimpArgs false
set_option linter.unusedVariables false
set_option maxRecDepth 100000
namespace Go.Proofs.Ytelkibmiinjokaa
open Go.RowKit Go.Sq Go.Wd

theorem int_info : (Try.prog.info? 3).map (fun i => (i.zero, i.size, i.bytes)) = some (some (.int .i64 0), 1, 8) := by kernel_rfl

/-- Where each epoch ends: among the first j entries' ends. -/
def sealAt (l : List Ent) (i : Nat) : Bool := decide (i + 1 = l.length) || match l[i]?, l[i + 1]? with
  | some x, some y => decide (x.1 ≠ y.1)
  | _, _ => true
def sealsTo (l : List Ent) (j : Nat) : List Int := ((List.range j).filter (sealAt l)).map fun i => ((i + 1 : Nat) : Int)
def sealsL (l : List Ent) : List Int := sealsTo l l.length

theorem sealsTo_succ (l : List Ent) (j : Nat) : sealsTo l (j + 1) = sealsTo l j ++ if sealAt l j = true then [((j + 1 : Nat) : Int)] else [] := by
  unfold sealsTo
  rw [List.range_succ, List.filter_append, List.map_append]
  by_cases h : sealAt l j = true <;> simp [h]
theorem sealsTo_yes {l : List Ent} {j : Nat} (h : sealAt l j = true) : sealsTo l (j + 1) = sealsTo l j ++ [((j + 1 : Nat) : Int)] := by rw [sealsTo_succ, if_pos h]
theorem sealsTo_no {l : List Ent} {j : Nat} (h : sealAt l j = false) : sealsTo l (j + 1) = sealsTo l j := by rw [sealsTo_succ, if_neg (by simp [h])]; simp
theorem sealsTo_len (l : List Ent) (j : Nat) : (sealsTo l j).length ≤ j := by
  unfold sealsTo
  rw [List.length_map]
  have := List.length_filter_le (sealAt l) (List.range j)
  simpa using this

def ints (l : List Int) : List Value := l.map (Value.int .i64)

set_option maxRecDepth 100000 in
set_option maxHeartbeats 1000000 in
theorem seals_any (l : List Ent) (A : Option Addr) (c : Nat) (w : World) (ha : Ents w w.heap.size A l) (hl : l.length ≤ 2000) :
    Calls Try.prog 23 #[.slice A l.length c] w fun e w' => ∃ v, e = .returned v ∧ w'.ownsRow w.heap.size 3 1 v (sealsL l).length (ints (sealsL l)) ∧ Below w.heap.size w w' := by
  have hw : Below w.heap.size w w := Below.refl _ _
  have H := Lib.hid ha
  clear ha
  go_enter Try.func23, Try.ntmps23
  go_wp2_with fail
  go_loopg [3, 8] l.length (fun k v i wr => ∃ j : Nat, k = l.length - j ∧ j ≤ l.length ∧ i = .int .i64 j ∧ Below w.heap.size w wr ∧ wr.ownsRow w.heap.size 3 1 v (sealsTo l j).length (ints (sealsTo l j)))
  case atStart => exact ⟨0, rfl, by omega, rfl, hw, World.ownsRow_nil _ _ _ _⟩
  case round =>
    clear hw
    obtain ⟨j, hk, hj, rfl, hwr, ho⟩ := hrel
    have AA : Aside (gk = l.length - j) := hk
    clear hk
    by_cases hlt : j < l.length
    · obtain ⟨b1, o1, x, rfl, hx, FA⟩ := H.out.at_ hlt
      obtain ⟨p0, p1, p2, p3, p4, p5⟩ := FA _ hwr
      have hbx := Blk.new wr 41 (vals x)
      have hxlt : wr.heap.size < (wr.alloc (.cells (vals x).toArray 41)).heap.size := by simp
      have hsub : IntKind.i64.wrap ((l.length : Int) - 1) = (l.length : Int) - 1 := IntWalk.i64_in _ (by omega)
      have hS : Below w.heap.size w (wr.alloc (.cells (vals x).toArray 41)) := hwr.alloc hwr.size _
      have hO := ho.alloc (.cells (vals x).toArray 41)
      have hle := hwr.size
      clear ho hwr
      have HX : ∃ r : Bool, r = sealAt l j := ⟨_, rfl⟩
      by_cases hend : j + 1 = l.length
      case' pos =>
        have he1 : ((j : Int) == (l.length : Int) - 1) = true := by simp; omega
        have hs : Hid (sealAt l j = true) := Lib.hid (by simp [sealAt, hend])
        clear hend
        go_wp2_with fail
        refine wp_region_p ([(0, true), (1, true), (2, true), (3, true), (4, true), (5, true), (6, true), (7, true), (8, true), (9, true), (10, true), (11, true), (12, false), (13, true), (14, true)]) (fun w' => Below w.heap.size w w') (by kernel_rfl) rfl (by kernel_rfl) (by kernel_rfl) (hS.drew) rfl ?_
        intro KP RP TP hKP hTP hTP'
        simp only [pick, nth]
        go_wp2_with (first
          | (apply SeqP.skip; rfl; simp only [Act.put, List.setIfInBounds_toArray, List.set_cons_zero, List.set_cons_succ])
          | (apply SeqP.call; rfl; rfl; (intro w2 hw; have hw := hTP _ hw; (skip); go_simp; exact ⟨rfl, rfl⟩); (intro w2 hw; have hw := hTP _ hw; (skip); (first | fail)); simp only [Act.put, List.setIfInBounds_toArray, List.set_cons_zero, List.set_cons_succ])
          | (apply SeqP.pure; rfl; (intro w2 hw; have hw := hTP _ hw; (skip); go_simp; with_reducible rfl); simp only [Act.put, List.setIfInBounds_toArray, List.set_cons_zero, List.set_cons_succ])
          | (apply SeqP.split; rfl; rfl; all_goals (intro hc; simp only [hc]; try simp only [beq_iff_eq, decide_eq_true_eq, beq_eq_false_iff_ne, decide_eq_false_iff_not, bne_iff_ne, ne_eq, Bool.not_eq_true', Bool.not_eq_false', Int.not_le, Int.not_lt, bne_eq_false_iff_eq, Bool.or_eq_true, Bool.and_eq_true, Bool.or_eq_false_iff] at hc)))
        apply SeqP.skip_eff
        · rfl
        · exact hTP' _ (hS.drew)
        (try simp only [Act.put, List.setIfInBounds_toArray, List.set_cons_zero, List.set_cons_succ])
        go_wp2_with (first
          | (apply SeqP.skip; rfl; simp only [Act.put, List.setIfInBounds_toArray, List.set_cons_zero, List.set_cons_succ])
          | (apply SeqP.call; rfl; rfl; (intro w2 hw; have hw := hTP _ hw; (skip); go_simp; exact ⟨rfl, rfl⟩); (intro w2 hw; have hw := hTP _ hw; (skip); (first | fail)); simp only [Act.put, List.setIfInBounds_toArray, List.set_cons_zero, List.set_cons_succ])
          | (apply SeqP.pure; rfl; (intro w2 hw; have hw := hTP _ hw; (skip); go_simp; with_reducible rfl); simp only [Act.put, List.setIfInBounds_toArray, List.set_cons_zero, List.set_cons_succ])
          | (apply SeqP.split; rfl; rfl; all_goals (intro hc; simp only [hc]; try simp only [beq_iff_eq, decide_eq_true_eq, beq_eq_false_iff_ne, decide_eq_false_iff_not, bne_iff_ne, ne_eq, Bool.not_eq_true', Bool.not_eq_false', Int.not_le, Int.not_lt, bne_eq_false_iff_eq, Bool.or_eq_true, Bool.and_eq_true, Bool.or_eq_false_iff] at hc)))
        apply SeqP.nil
        refine hKP _ _ (hTP' _ (hS.drew)) ?_
        clear hKP hTP hTP'
        refine abs_at (fun W => Below w.heap.size w W ∧ W.ownsRow w.heap.size 3 1 u3 (sealsTo l j).length (ints (sealsTo l j))) ⟨hS.drew, hO⟩ ?_
      case' neg =>
        have he1 : ((j : Int) == (l.length : Int) - 1) = false := by simp; omega
        obtain ⟨b2, o2, y, hab, hy, FB⟩ := H.out.at_ (show j + 1 < l.length by omega)
        cases hab
        have i0 : (0 : Int) ≤ (j : Int) + 1 := by omega
        have i1 : (j : Int) + 1 < (l.length : Int) := by omega
        have hsub2 : IntKind.i64.wrap ((j : Int) + 1) = (j : Int) + 1 := IntWalk.i64_in _ (by omega)
        go_wp2_with fail
        refine wp_region_p ([(0, true), (1, true), (2, true), (3, true), (4, true), (5, true), (6, true), (7, true), (8, true), (9, true), (10, true), (11, true), (12, false), (13, true), (14, true)]) (fun w' => Below w.heap.size w w' ∧ Blk w' wr.heap.size 41 (vals x)) (by kernel_rfl) rfl (by kernel_rfl) (by kernel_rfl) (⟨hS.drew, hbx⟩) rfl ?_
        intro KP RP TP hKP hTP hTP'
        simp only [pick, nth]
        go_wp2_with (first
          | (apply SeqP.skip; rfl; simp only [Act.put, List.setIfInBounds_toArray, List.set_cons_zero, List.set_cons_succ])
          | (apply SeqP.call; rfl; rfl; (intro w2 hw; have hw := hTP _ hw; ((have q0 := hw.2.cell 0; have q1 := hw.2.cell 1; have q2 := hw.2.cell 2; have q3 := hw.2.cell 3; have q4 := hw.2.cell 4; have q5 := hw.2.cell 5; simp [vals] at q0 q1 q2 q3 q4 q5; obtain ⟨r0, r1, r2, r3, r4, r5⟩ := FB _ hw.1)); go_simp; exact ⟨rfl, rfl⟩); (intro w2 hw; have hw := hTP _ hw; ((have q0 := hw.2.cell 0; have q1 := hw.2.cell 1; have q2 := hw.2.cell 2; have q3 := hw.2.cell 3; have q4 := hw.2.cell 4; have q5 := hw.2.cell 5; simp [vals] at q0 q1 q2 q3 q4 q5; obtain ⟨r0, r1, r2, r3, r4, r5⟩ := FB _ hw.1)); (first | fail)); simp only [Act.put, List.setIfInBounds_toArray, List.set_cons_zero, List.set_cons_succ])
          | (apply SeqP.pure; rfl; (intro w2 hw; have hw := hTP _ hw; ((have q0 := hw.2.cell 0; have q1 := hw.2.cell 1; have q2 := hw.2.cell 2; have q3 := hw.2.cell 3; have q4 := hw.2.cell 4; have q5 := hw.2.cell 5; simp [vals] at q0 q1 q2 q3 q4 q5; obtain ⟨r0, r1, r2, r3, r4, r5⟩ := FB _ hw.1)); go_simp; with_reducible rfl); simp only [Act.put, List.setIfInBounds_toArray, List.set_cons_zero, List.set_cons_succ])
          | (apply SeqP.split; rfl; rfl; all_goals (intro hc; simp only [hc]; try simp only [beq_iff_eq, decide_eq_true_eq, beq_eq_false_iff_ne, decide_eq_false_iff_not, bne_iff_ne, ne_eq, Bool.not_eq_true', Bool.not_eq_false', Int.not_le, Int.not_lt, bne_eq_false_iff_eq, Bool.or_eq_true, Bool.and_eq_true, Bool.or_eq_false_iff] at hc)))
        apply SeqP.eff
        · rfl
        intro KE hKE
        go_wp2_with fail
        refine (epoch_any x y _).mono ?_
        rintro e w1 ⟨rfl, hb⟩
        have hw1 := below_trans hS.drew hb hS.size
        have hb1 := hbx.drew.below hb (by simp)
        refine hKE _ _ (hTP' _ ⟨hw1, hb1⟩) ?_
        have hs : sealAt l j = decide (x.1 ≠ y.1) := by
          have e1 := hx.out
          have e2 := hy.out
          simp [sealAt, hend, e1, e2]
        have hz : (cmpL x.1 y.1 != 0) = sealAt l j := by
          rw [hs, Bool.eq_iff_iff]
          simp [cmpL]
          split <;> (try split) <;> omega
        generalize cmpL x.1 y.1 = z at hz ⊢
        clear hs
        have HW : Below w.heap.size w w1 ∧ w1.ownsRow w.heap.size 3 1 u3 (sealsTo l j).length (ints (sealsTo l j)) := ⟨hw1, (ownsRow_drew hO).kept (only_of_below hb none) (by cases u3.ownBlock <;> simp)⟩
        clear hO hS hbx hb
        cases hq : sealAt l j
        · rw [hq] at hz
          have hs : Hid (sealAt l j = false) := Lib.hid hq
          clear hq
          go_wp2_with (first
            | (apply SeqP.skip; rfl; simp only [Act.put, List.setIfInBounds_toArray, List.set_cons_zero, List.set_cons_succ])
            | (apply SeqP.call; rfl; rfl; (intro w2 hw; have hw := hTP _ hw; (skip); go_simp; exact ⟨rfl, rfl⟩); (intro w2 hw; have hw := hTP _ hw; (skip); (first | fail)); simp only [Act.put, List.setIfInBounds_toArray, List.set_cons_zero, List.set_cons_succ])
            | (apply SeqP.pure; rfl; (intro w2 hw; have hw := hTP _ hw; (skip); go_simp; with_reducible rfl); simp only [Act.put, List.setIfInBounds_toArray, List.set_cons_zero, List.set_cons_succ])
            | (apply SeqP.split; rfl; rfl; all_goals (intro hc; simp only [hc]; try simp only [beq_iff_eq, decide_eq_true_eq, beq_eq_false_iff_ne, decide_eq_false_iff_not, bne_iff_ne, ne_eq, Bool.not_eq_true', Bool.not_eq_false', Int.not_le, Int.not_lt, bne_eq_false_iff_eq, Bool.or_eq_true, Bool.and_eq_true, Bool.or_eq_false_iff] at hc)))
          apply SeqP.nil
          refine hKP _ _ (hTP' _ (⟨hw1, hb1⟩)) ?_
          clear hKP hTP hTP'
          go_wp2_with fail
          go_roundg (l.length - (j + 1))
          case measure => have hkk := AA.out; omega
          case rel => exact ⟨j + 1, rfl, by omega, by go_num, HW.1, by rw [sealsTo_no hs.out]; exact HW.2⟩
        · rw [hq] at hz
          have hs : Hid (sealAt l j = true) := Lib.hid hq
          clear hq
          go_wp2_with (first
            | (apply SeqP.skip; rfl; simp only [Act.put, List.setIfInBounds_toArray, List.set_cons_zero, List.set_cons_succ])
            | (apply SeqP.call; rfl; rfl; (intro w2 hw; have hw := hTP _ hw; (skip); go_simp; exact ⟨rfl, rfl⟩); (intro w2 hw; have hw := hTP _ hw; (skip); (first | fail)); simp only [Act.put, List.setIfInBounds_toArray, List.set_cons_zero, List.set_cons_succ])
            | (apply SeqP.pure; rfl; (intro w2 hw; have hw := hTP _ hw; (skip); go_simp; with_reducible rfl); simp only [Act.put, List.setIfInBounds_toArray, List.set_cons_zero, List.set_cons_succ])
            | (apply SeqP.split; rfl; rfl; all_goals (intro hc; simp only [hc]; try simp only [beq_iff_eq, decide_eq_true_eq, beq_eq_false_iff_ne, decide_eq_false_iff_not, bne_iff_ne, ne_eq, Bool.not_eq_true', Bool.not_eq_false', Int.not_le, Int.not_lt, bne_eq_false_iff_eq, Bool.or_eq_true, Bool.and_eq_true, Bool.or_eq_false_iff] at hc)))
          apply SeqP.nil
          refine hKP _ _ (hTP' _ (⟨hw1, hb1⟩)) ?_
          clear hKP hTP hTP'
          refine abs_at (fun W => Below w.heap.size w W ∧ W.ownsRow w.heap.size 3 1 u3 (sealsTo l j).length (ints (sealsTo l j))) HW ?_
          clear HW hw1 hb1
          rintro W ⟨hWb, hWo⟩
          obtain ⟨v2, w2, hrun, hO2, hg2, _⟩ := append_one (P := Try.prog) 30 Try.underlying30 int_info rfl (by omega) hWo [.int .i64 ((j : Int) + 1)] rfl (by simp [Value.oneCell']) (by have := sealsTo_len l j; simp only [maxLen]; omega) (by have := sealsTo_len l j; omega) hWb.size rfl
          have hb2 := below_own hWb hg2 hWo hWb.size
          clear hg2 hWo hWb
          go_wp2_with (at_builtin; refine wpList_app rfl (by rfl) (by rfl) (by rfl) hrun ?_)
          go_roundg (l.length - (j + 1))
          case measure => have hkk := AA.out; omega
          case rel => exact ⟨j + 1, rfl, by omega, by go_num, hb2, by rw [sealsTo_yes hs.out]; simpa [ints] using hO2⟩
      case' pos =>
          clear hS hO hbx
          rintro W ⟨hWb, hWo⟩
          obtain ⟨v2, w2, hrun, hO2, hg2, _⟩ := append_one (P := Try.prog) 30 Try.underlying30 int_info rfl (by omega) hWo [.int .i64 ((j : Int) + 1)] rfl (by simp [Value.oneCell']) (by have := sealsTo_len l j; simp only [maxLen]; omega) (by have := sealsTo_len l j; omega) hWb.size rfl
          have hb2 := below_own hWb hg2 hWo hWb.size
          clear hg2 hWo hWb
          go_wp2_with (at_builtin; refine wpList_app rfl (by rfl) (by rfl) (by rfl) hrun ?_)
          go_roundg (l.length - (j + 1))
          case measure => have hkk := AA.out; omega
          case rel => exact ⟨j + 1, rfl, by omega, by go_num, hb2, by rw [sealsTo_yes hs.out]; simpa [ints] using hO2⟩
    · have hj' : j = l.length := by omega
      subst hj'
      go_wp2_with fail
      go_ret
      exact ⟨_, rfl, ho, hwr⟩

set_option maxRecDepth 100000 in
set_option maxHeartbeats 1000000 in
theorem rseals_any (l : List Ent) (A : Option Addr) (c : Nat) (w : World) (ha : Ents w w.heap.size A l) (hl : l.length ≤ 2000) :
    Calls Try.prog 24 #[.slice A l.length c] w fun e w' => ∃ v, e = .returned v ∧ w'.ownsRow w.heap.size 3 1 v (sealsL l).length (ints (sealsL l)) ∧ Below w.heap.size w w' := by
  have hw : Below w.heap.size w w := Below.refl _ _
  have H := Lib.hid ha
  clear ha
  go_enter Try.func24, Try.ntmps24
  go_wp2_with fail
  go_loopg [3, 4] (l.length + 1) (fun k v i wr => ∃ j : Nat, k = l.length + 1 - j ∧ j ≤ l.length ∧ i = .int .i64 (j + 1) ∧ Below w.heap.size w wr ∧ wr.ownsRow w.heap.size 3 1 v (sealsTo l j).length (ints (sealsTo l j)))
  case atStart => exact ⟨0, rfl, by omega, rfl, hw, World.ownsRow_nil _ _ _ _⟩
  case round =>
    clear hw
    obtain ⟨j, hk, hj, rfl, hwr, ho⟩ := hrel
    have AA : Aside (gk = l.length + 1 - j) := hk
    clear hk
    by_cases hlt : j < l.length
    · obtain ⟨b1, o1, x, rfl, hx, FA⟩ := H.out.at_ hlt
      have hsub : IntKind.i64.wrap (j : Int) = j := IntWalk.i64_in _ (by omega)
      have hle := hwr.size
      by_cases hend : j + 1 = l.length
      case' pos =>
        have he1 : ((j : Int) + 1 == (l.length : Int)) = true := by simp; omega
        have hs : Hid (sealAt l j = true) := Lib.hid (by simp [sealAt, hend])
        have HE := Lib.hid hend
        clear hend
        go_wp2_with fail
        refine wp_region_p ([(0, true), (1, true), (2, true), (3, true), (4, true), (5, true), (6, true), (7, true), (8, true), (9, true), (10, true), (11, true), (12, true), (13, true), (14, true), (15, true), (16, true), (17, true)]) (fun w' => Below w.heap.size w w') (by kernel_rfl) rfl (by kernel_rfl) (by kernel_rfl) (hwr.drew) rfl ?_
        intro KP RP TP hKP hTP hTP'
        simp only [pick, nth]
        go_wp2_with (first
          | (apply SeqP.skip; rfl; simp only [Act.put, List.setIfInBounds_toArray, List.set_cons_zero, List.set_cons_succ])
          | (apply SeqP.call; rfl; rfl; (intro w2 hw; have hw := hTP _ hw; (skip); go_simp; exact ⟨rfl, rfl⟩); (intro w2 hw; have hw := hTP _ hw; (skip); (first | fail)); simp only [Act.put, List.setIfInBounds_toArray, List.set_cons_zero, List.set_cons_succ])
          | (apply SeqP.pure; rfl; (intro w2 hw; have hw := hTP _ hw; (skip); go_simp; with_reducible rfl); simp only [Act.put, List.setIfInBounds_toArray, List.set_cons_zero, List.set_cons_succ])
          | (apply SeqP.split; rfl; rfl; all_goals (intro hc; simp only [hc]; try simp only [beq_iff_eq, decide_eq_true_eq, beq_eq_false_iff_ne, decide_eq_false_iff_not, bne_iff_ne, ne_eq, Bool.not_eq_true', Bool.not_eq_false', Int.not_le, Int.not_lt, bne_eq_false_iff_eq, Bool.or_eq_true, Bool.and_eq_true, Bool.or_eq_false_iff] at hc)))
        apply SeqP.nil
        refine hKP _ _ (hTP' _ (hwr.drew)) ?_
        clear hKP hTP hTP'
        refine abs_at (fun W => Below w.heap.size w W ∧ W.ownsRow w.heap.size 3 1 u3 (sealsTo l j).length (ints (sealsTo l j))) ⟨hwr.drew, ho⟩ ?_
      case' neg =>
        have he1 : ((j : Int) + 1 == (l.length : Int)) = false := by simp; omega
        obtain ⟨b2, o2, y, hab, hy, FB⟩ := H.out.at_ (show j + 1 < l.length by omega)
        cases hab
        have i0 : (0 : Int) ≤ (j : Int) + 1 := by omega
        have i1 : (j : Int) + 1 < (l.length : Int) := by omega
        have hs0 : sealAt l j = (y.1 != x.1) := by
          have e1 := hx.out
          have e2 := hy.out
          rw [Bool.eq_iff_iff]
          simp [sealAt, hend, e1, e2]
          exact ⟨fun h e => h e.symm, fun h e => h e.symm⟩
        have HS := Lib.hid hs0
        clear hs0
        go_wp2_with fail
        refine wp_region_p ([(0, true), (1, true), (2, true), (3, true), (4, true), (5, true), (6, true), (7, true), (8, true), (9, true), (10, true), (11, true), (12, true), (13, true), (14, true), (15, true), (16, true), (17, true)]) (fun w' => Below w.heap.size w w') (by kernel_rfl) rfl (by kernel_rfl) (by kernel_rfl) (hwr.drew) rfl ?_
        intro KP RP TP hKP hTP hTP'
        simp only [pick, nth]
        go_wp2_with (first
          | (apply SeqP.skip; rfl; simp only [Act.put, List.setIfInBounds_toArray, List.set_cons_zero, List.set_cons_succ])
          | (apply SeqP.call; rfl; rfl; (intro w2 hw; have hw := hTP _ hw; ((obtain ⟨p0, p1, p2, p3, p4, p5⟩ := FA _ hw; obtain ⟨r0, r1, r2, r3, r4, r5⟩ := FB _ hw)); go_simp; exact ⟨rfl, rfl⟩); (intro w2 hw; have hw := hTP _ hw; ((obtain ⟨p0, p1, p2, p3, p4, p5⟩ := FA _ hw; obtain ⟨r0, r1, r2, r3, r4, r5⟩ := FB _ hw)); (first | fail)); simp only [Act.put, List.setIfInBounds_toArray, List.set_cons_zero, List.set_cons_succ])
          | (apply SeqP.pure; rfl; (intro w2 hw; have hw := hTP _ hw; ((obtain ⟨p0, p1, p2, p3, p4, p5⟩ := FA _ hw; obtain ⟨r0, r1, r2, r3, r4, r5⟩ := FB _ hw)); go_simp; with_reducible rfl); simp only [Act.put, List.setIfInBounds_toArray, List.set_cons_zero, List.set_cons_succ])
          | (apply SeqP.split; rfl; rfl; all_goals (intro hc; simp only [hc]; try simp only [beq_iff_eq, decide_eq_true_eq, beq_eq_false_iff_ne, decide_eq_false_iff_not, bne_iff_ne, ne_eq, Bool.not_eq_true', Bool.not_eq_false', Int.not_le, Int.not_lt, bne_eq_false_iff_eq, Bool.or_eq_true, Bool.and_eq_true, Bool.or_eq_false_iff] at hc)))
        apply SeqP.nil
        refine hKP _ _ (hTP' _ (hwr.drew)) ?_
        clear hKP hTP hTP'
        clear FA FB
        cases hq : sealAt l j
        · have hz : (y.1 != x.1) = false := by rw [← HS.out]; exact hq
          have hs : Hid (sealAt l j = false) := Lib.hid hq
          clear hq
          go_wp2_with fail
          go_roundg (l.length + 1 - (j + 1))
          case measure => have hkk := AA.out; omega
          case rel => exact ⟨j + 1, rfl, by omega, by go_num, hwr.drew, by rw [sealsTo_no hs.out]; exact ho⟩
        · have hz : (y.1 != x.1) = true := by rw [← HS.out]; exact hq
          have hs : Hid (sealAt l j = true) := Lib.hid hq
          clear hq
          refine abs_at (fun W => Below w.heap.size w W ∧ W.ownsRow w.heap.size 3 1 u3 (sealsTo l j).length (ints (sealsTo l j))) ⟨hwr.drew, ho⟩ ?_
          clear ho hwr hle
          rintro W ⟨hWb, hWo⟩
          obtain ⟨v2, w2, hrun, hO2, hg2, _⟩ := append_one (P := Try.prog) 30 Try.underlying30 int_info rfl (by omega) hWo [.int .i64 ((j : Int) + 1)] rfl (by simp [Value.oneCell']) (by have := sealsTo_len l j; simp only [maxLen]; omega) (by have := sealsTo_len l j; omega) hWb.size rfl
          have hb2 := below_own hWb hg2 hWo hWb.size
          clear hg2 hWo hWb
          go_wp2_with (at_builtin; refine wpList_app rfl (by rfl) (by rfl) (by rfl) hrun ?_)
          go_roundg (l.length + 1 - (j + 1))
          case measure => have hkk := AA.out; omega
          case rel => exact ⟨j + 1, rfl, by omega, by go_num, hb2, by rw [sealsTo_yes hs.out]; simpa [ints] using hO2⟩
      case' pos =>
          clear ho hwr hle he1
          rintro W ⟨hWb, hWo⟩
          obtain ⟨v2, w2, hrun, hO2, hg2, _⟩ := append_one (P := Try.prog) 30 Try.underlying30 int_info rfl (by omega) hWo [.int .i64 ((j : Int) + 1)] rfl (by simp [Value.oneCell']) (by have := sealsTo_len l j; simp only [maxLen]; omega) (by have := sealsTo_len l j; omega) hWb.size rfl
          have hb2 := below_own hWb hg2 hWo hWb.size
          clear hg2 hWo hWb
          go_wp2_with (at_builtin; refine wpList_app rfl (by rfl) (by rfl) (by rfl) hrun ?_)
          go_roundg (l.length + 1 - (j + 1))
          case measure => have hkk := AA.out; omega
          case rel => exact ⟨j + 1, rfl, by omega, by have := HE.out; go_num, hb2, by rw [sealsTo_yes hs.out]; simpa [ints] using hO2⟩
    · have hj' : j = l.length := by omega
      subst hj'
      go_wp2_with fail
      go_ret
      exact ⟨_, rfl, ho, hwr⟩
end Go.Proofs.Ytelkibmiinjokaa
