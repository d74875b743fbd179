/-
  The walk over the statement EpochsAt.
-/
import Derived.Test.YtlineikeafepcaaEpoWorks
import Derived.Test.YtlineikeafepcaaIntRow
import Derived.Test.YtlineikeafepcaaSeqZ
import Derived.Deep.LoopGhost
set_option linter.unusedSimpArgs false
set_option linter.unusedVariables false
set_option maxRecDepth 100000
namespace Go.Proofs.Ytlineikeafepcaa
open Go Go.RowKit Go.Sq Go.Wd

theorem most_in {m : Nat} (l : List Int) (hm : m = l.length) (A : Option Addr) (c : Nat) (n : Int) {v : Int} {b : Bool} (hv : mostE l n = (v, b)) (w : World) (hl : Nums w w.heap.size A .i64 l) (hll : l.length ≤ 9223372036854775807) :
    Calls Try.prog 35 #[.slice A m c, .int .i64 n] w fun e w' => e = .returned (.tuple #[.int .i64 v, .bool b]) ∧ Below w.heap.size w w' := by
  subst hm
  have := most_any l A c n w hl hll
  rw [hv] at this
  exact this
theorem geC_next {l : List Int} {j : Nat} {x v : Int} (hx : l[j]? = some x) : geC (l.take (j + 1)) v = geC (l.take j) v + (if v ≤ x then 1 else 0) := by
  unfold geC
  rw [List.take_add_one, hx, List.countP_append]
  simp [List.countP_cons]
theorem gtC_next {l : List Int} {j : Nat} {x v : Int} (hx : l[j]? = some x) : gtC (l.take (j + 1)) v = gtC (l.take j) v + (if v < x then 1 else 0) := by
  unfold gtC
  rw [List.take_add_one, hx, List.countP_append]
  simp [List.countP_cons]
theorem tmod_range (a : Int) {n : Nat} (h : 0 < n) : -(n : Int) < a.tmod n ∧ a.tmod n < n := by
  refine ⟨?_, Int.tmod_lt_of_pos a (by omega)⟩
  have := Int.tmod_lt_of_pos (-a) (show (0 : Int) < n by omega)
  rw [Int.neg_tmod] at this
  omega
/-- One that is raised does not lower it. -/
theorem geC_set {l : List Int} {i : Nat} {x y v : Int} (hx : l[i]? = some x) (h : x ≤ y) : geC l v ≤ geC (l.set i y) v := by
  unfold geC
  have hi := (List.getElem?_eq_some_iff.1 hx).1
  have e1 : l = l.take i ++ x :: l.drop (i + 1) := by
    have := (List.getElem?_eq_some_iff.1 hx).2
    rw [← this, ← List.drop_eq_getElem_cons hi, List.take_append_drop]
  have e2 : l.set i y = l.take i ++ y :: l.drop (i + 1) := by rw [List.set_eq_take_append_cons_drop, if_pos hi]
  rw [e2]
  conv => lhs; rw [e1]
  rw [List.countP_append, List.countP_append, List.countP_cons, List.countP_cons]
  have : (if decide (v ≤ x) = true then 1 else 0) ≤ (if decide (v ≤ y) = true then 1 else 0) := by
    by_cases h1 : v ≤ x
    · rw [if_pos (by simpa using h1), if_pos (by simp; omega)]; exact Nat.le_refl _
    · rw [if_neg (by simpa using h1)]; exact Nat.zero_le _
  omega
theorem kth_raised {l : List Int} {i k : Nat} {x y v u : Int} (hx : l[i]? = some x) (h : x ≤ y) (hv : KthP l k v) (hu : KthP (l.set i y) k u) : v ≤ u := by
  by_cases hlt : u < v
  · have h1 := geC_gt (l := l.set i y) hlt
    have h2 := geC_set (v := v) hx h
    have := hu.2.2
    have := hv.2.1
    omega
  · omega

theorem rowI_nums {w : World} {B : Nat} {p : Option Addr} {m c : Nat} {l : List Int} (h : RowI w B (.slice p m c) l) : Nums w w.heap.size p .i64 l := by
  obtain ⟨A2, c2, he, _, _, N8⟩ := RowI.form h
  injection he with e1 _ _
  rw [e1]
  exact N8

set_option maxHeartbeats 4000000 in
theorem epochsAt_walk (l : List Int) (A : Option Addr) (c : Nat) (n r0 r1 : Int) (w : World) (hl : Nums w w.heap.size A .i64 l) (hll : l.length ≤ 9223372036854775807) (wr0 : (Lit.int .i64 r0).wf = true) (wr1 : (Lit.int .i64 r1).wf = true) :
    Calls Try.prog 12 #[.slice A l.length c, .int .i64 n, .agg #[.int .i64 r0, .int .i64 r1]] w fun r w' => r = .returned (.bool true) ∧ Below w.heap.size w w' := by
  have hW : Below w.heap.size w (w.alloc (.cells #[.int .i64 r0, .int .i64 r1] 77)) := (Below.refl _ _).alloc (Nat.le_refl _) _
  have B0 := Blk.new w 77 [.int .i64 r0, .int .i64 r1]
  have HH := Lib.hid (And.intro hW (And.intro B0 ((hl.below hW).more hW.size)))
  clear hW B0 hl
  go_enter Try.func12, Try.ntmps12
  go_wp2_with ((with_reducible refine at_list ?_); (with_reducible refine cut_at 21 rfl ?_))
  refine Cut.go ?_
  generalize (w.alloc (.cells #[.int .i64 r0, .int .i64 r1] 77)) = w1 at HH ⊢
  obtain ⟨hw1, B0, hl⟩ := HH.out
  clear HH
  have hz := hw1.size
  by_cases h20 : 20 < l.length
  case pos =>
    have h20b : (20 : Int) < (l.length : Int) := by omega
    go_wp2_with fail
    go_ret
    exact ⟨rfl, hw1⟩
  have h20b : ¬ (20 : Int) < (l.length : Int) := by omega
  by_cases hok : mostOk l n
  case neg =>
    have H1 := Lib.hid (most_in l rfl A c n (most_not hok) w1 hl hll)
    have hcc : majE n = 0 ∨ (majE n ≠ 0 ∧ n < (l.length : Int)) ∨ (majE n ≠ 0 ∧ ¬ n < (l.length : Int) ∧ (l.length : Int) < majE n) := by
      by_cases h0 : majE n = 0
      · exact .inl h0
      · have hs : sitesE n = true := by
          cases hs : sitesE n
          · exact absurd (maj_zero.2 hs) h0
          · rfl
        by_cases h1 : n < (l.length : Int)
        · exact .inr (.inl ⟨h0, h1⟩)
        · refine .inr (.inr ⟨h0, h1, ?_⟩)
          by_cases h : (l.length : Int) < majE n
          · exact h
          · exact absurd ⟨hs, by omega, by omega⟩ hok
    have hm := maj_any n
    obtain ⟨k, hk⟩ : ∃ k, majE n = k := ⟨_, rfl⟩
    rw [hk] at hm hcc
    have HM := Lib.hid hm
    clear hm hok hk hl
    rcases hcc with c1 | ⟨c1, c2⟩ | ⟨c1, c2, c3⟩
    case' inl => have c1b : (k == 0) = true := by rw [beq_iff_eq]; exact c1
    case' inr.inl => have c1b : (k == 0) = false := by rw [beq_eq_false_iff_ne]; exact c1
    case' inr.inr => have c1b : (k == 0) = false := by rw [beq_eq_false_iff_ne]; exact c1
    all_goals
      clear c1
      go_wp2_with fail
      refine H1.out.mono ?_
      rintro r w2 ⟨rfl, hb⟩
      have hw2 := below_trans hw1 hb hz
      clear H1 hb
      go_wp2_with fail
      refine (HM.out _).mono ?_
      rintro r w3 ⟨rfl, rfl⟩
      go_wp2_with (first | (refine (HM.out _).mono ?_; rintro r w3 ⟨rfl, rfl⟩) | fail)
      refine (works_any _).mono ?_
      rintro r w7 ⟨rfl, hb⟩
      have hB := below_trans hw2 hb hw2.size
      go_wp2_with fail
      go_ret
      exact ⟨rfl, hB⟩
  obtain ⟨m, hm, hk⟩ := most_kth hok
  have hr := maj_range hok.1
  have hlen : 2 ≤ (l.length : Int) := by have := hok.2.2; omega
  have hlen7 : l.length ≤ 7 := by have := hok.2.1; omega
  have H1 := Lib.hid (most_in l rfl A c n hm w1 hl hll)
  have hmj := maj_any n
  obtain ⟨k, hk2⟩ := Int.eq_ofNat_of_zero_le (show 0 ≤ majE n by omega)
  have hkk2 : (majE n).toNat = k := by rw [hk2]; rfl
  rw [hk2] at hmj
  rw [hkk2] at hk
  have HM := Lib.hid hmj
  have HK := Lib.hid (And.intro hk (And.intro hok hkk2))
  have hk7 : k ≤ 7 := by omega
  clear hmj hk hok hm hr hk2 hkk2
  go_wp2_with fail
  refine H1.out.mono ?_
  rintro r w2 ⟨rfl, hb⟩
  have hw2 := below_trans hw1 hb hz
  have B2 := B0.keep hb
  have HL := Lib.hid ((hl.below hb).more hb.size)
  have hz2 := hw2.size
  clear hb H1 hl B0 hw1 hz
  try clear w1
  go_wp2_with fail
  go_loopg [9, 10, 11] l.length (fun q x y i wr => ∃ (j : Nat), q = l.length - j ∧ j ≤ l.length ∧ x = .int .i64 (geC (l.take j) m : Int) ∧ y = .int .i64 (gtC (l.take j) m : Int) ∧ i = .int .i64 j ∧ wr = w2)
  case atStart => exact ⟨0, rfl, by omega, rfl, rfl, rfl, rfl⟩
  case round =>
    obtain ⟨j, hq, hj, rfl, rfl, rfl, rfl⟩ := hrel
    have AA : Aside (gk = l.length - j) := hq
    clear hq
    by_cases hlt : j < l.length
    · obtain ⟨b1, o1, u, rfl, hu, FA⟩ := HL.out.at_ hlt
      have cu := FA _ (Below.refl _ _)
      clear FA
      have HU := Lib.hid (And.intro (geC_next (v := m) hu.out) (gtC_next (v := m) hu.out))
      have hg1 : geC (l.take j) m ≤ 20 := Nat.le_trans List.countP_le_length (by rw [List.length_take]; omega)
      have hg2 : gtC (l.take j) m ≤ 20 := Nat.le_trans List.countP_le_length (by rw [List.length_take]; omega)
      obtain ⟨X, hX⟩ : ∃ X, geC (l.take j) m = X := ⟨_, rfl⟩
      obtain ⟨Y, hY⟩ : ∃ Y, gtC (l.take j) m = Y := ⟨_, rfl⟩
      rw [hX] at HU hg1 ⊢
      rw [hY] at HU hg2 ⊢
      clear hX hY
      have hcc : (m ≤ u ∧ m < u) ∨ (m ≤ u ∧ ¬ m < u) ∨ (¬ m ≤ u ∧ ¬ m < u) := by omega
      rcases hcc with ⟨c1, c2⟩ | ⟨c1, c2⟩ | ⟨c1, c2⟩
      all_goals
        have HC := Lib.hid (And.intro c1 c2)
        go_wp2_with fail
        go_roundg (l.length - (j + 1))
        case measure => have hkk := AA.out; omega
        case rel =>
          refine ⟨j + 1, rfl, by omega, ?_, ?_, by go_num, rfl⟩
          · rw [HU.out.1]; first | rw [if_pos (by have := HC.out.1; omega)] | rw [if_neg (by have := HC.out.1; omega)]
            simp
          · rw [HU.out.2]; first | rw [if_pos (by have := HC.out.2; omega)] | rw [if_neg (by have := HC.out.2; omega)]
            simp
    · obtain rfl : j = l.length := by omega
      have hge : ¬ ((geC (l.take l.length) m : Nat) : Int) < (k : Int) := by rw [List.take_length]; have := HK.out.1.2.1; omega
      have hgt : ((gtC (l.take l.length) m : Nat) : Int) < (k : Int) := by rw [List.take_length]; have := HK.out.1.2.2; omega
      generalize geC (l.take l.length) m = X at hge ⊢
      generalize gtC (l.take l.length) m = Y at hgt ⊢
      have dX : decide (X < k) = false := decide_eq_false (by omega)
      have dY : decide (k ≤ Y) = false := decide_eq_false (by omega)
      go_wp2_with fail
      refine (HM.out _).mono ?_
      rintro r w3 ⟨rfl, rfl⟩
      go_wp2_with fail
      refine (HM.out _).mono ?_
      rintro r w4 ⟨rfl, rfl⟩
      clear hlt hj
      go_wp2_with fail
      clear hge hgt dX dY
      have hrl : l.reverse.length = l.length := List.length_reverse
      obtain ⟨w5, rfl⟩ : ∃ z, z = w4 := ⟨_, rfl⟩
      go_loopg [12, 13] l.length (fun q v i wr => ∃ (j : Nat), q = l.length - j ∧ j ≤ l.length ∧ i = .int .i64 ((l.length : Int) - 1 - j) ∧ Below w5.heap.size w5 wr ∧ RowI wr w5.heap.size v (l.reverse.take j))
      case atStart => exact ⟨0, rfl, by omega, by simp, Below.refl _ _, RowI.nil _ _⟩
      case round =>
        obtain ⟨j, hq, hj, rfl, hB, hR⟩ := hrel
        have AA : Aside (gk = l.length - j) := hq
        clear hq
        by_cases hlt : j < l.length
        · have d0 : (0 : Int) ≤ (l.length : Int) - 1 - j := by omega
          obtain ⟨J, hJ⟩ : ∃ J : Nat, J = l.length - 1 - j := ⟨_, rfl⟩
          have hJl : J < l.length := by omega
          have ei : (l.length : Int) - 1 - (j : Int) = (J : Int) := by omega
          obtain ⟨b1, o1, u, rfl, hu, FA⟩ := HL.out.at_ hJl
          have hb1 : Below wr.heap.size wr (wr.alloc (.cells #[.int .i64 u] 3)) := (Below.refl _ _).alloc (Nat.le_refl _) _
          have cu := FA _ hB
          have R1 := RowI.keep hR hb1
          have hB1 := below_trans hB hb1 hB.size
          obtain ⟨v', w6, hrun, R6, hg6, _⟩ := RowI.app R1 (some ⟨wr.heap.size, 0, none⟩) 1 (nums_one wr u) (by rw [List.length_take]; simp; omega) hB1.size
          have hB6 := below_own hB1 hg6 R1 hB1.size
          have hru : l.reverse[j]? = some u := by rw [List.getElem?_reverse hlt, ← hJ]; exact hu.out
          have HR := Lib.hid (And.intro hB6 (And.intro R6 (And.intro hru hJ)))
          rw [ei]
          clear hR hB hB1 hb1 R1 R6 hg6 hB6 hru FA d0 ei hJ
          go_wp2_with (at_builtin; refine wpList_app rfl (by rfl) (by rfl) (by rfl) hrun ?_)
          go_roundg (l.length - (j + 1))
          case measure => have hkk := AA.out; omega
          case rel =>
            have hJ2 := HR.out.2.2.2
            refine ⟨j + 1, rfl, by omega, ?_, HR.out.1, ?_⟩
            · congr 1; omega
            · rw [List.take_add_one, HR.out.2.2.1]; exact HR.out.2.1
        · obtain rfl : j = l.length := by omega
          have d0 : ¬ (0 : Int) ≤ (l.length : Int) - 1 - (l.length : Int) := by omega
          have hR2 : RowI wr w5.heap.size u12 l.reverse := by rwa [List.take_of_length_le (by omega)] at hR
          obtain ⟨Ar, cr, rfl, _, _, NR⟩ := hR2.form
          have H3 := Lib.hid (most_in (m := l.length) l.reverse hrl.symm Ar cr n (v := m) (b := true) (most_eq ⟨HK.out.2.1.1, by rw [hrl]; exact HK.out.2.1.2.1, by rw [hrl]; exact HK.out.2.1.2.2⟩ (by rw [HK.out.2.2]; exact kth_perm (List.reverse_perm l).symm HK.out.1)) wr NR (by omega))
          have hB5 := below_trans hw2 hB hz2
          have B5 := B2.keep hB
          have HL5 := Lib.hid ((HL.out.below hB).more hB.size)
          clear hR hR2 NR hB hrl
          go_wp2_with fail
          refine H3.out.mono ?_
          rintro r w6 ⟨rfl, hb⟩
          have hB6 := below_trans hB5 hb hB5.size
          have B6 := B5.keep hb
          have HL6 := Lib.hid ((HL5.out.below hb).more hb.size)
          have c0 := B6.cell 0
          have c1 := B6.cell 1
          have lB := B6.lt
          simp at c0 c1
          clear hb H3 B5 HL5 hB5 d0
          go_wp2_with ((with_reducible refine at_list ?_); (with_reducible refine cut_at 112 rfl ?_))
          refine Cut.go ?_
          have hT := tmod_range r0 (n := l.length) (by omega)
          generalize r0.tmod (l.length : Int) = T at hT ⊢
          clear c0
          by_cases hT0 : T < 0
          case' pos =>
            obtain ⟨I, hI⟩ := Int.eq_ofNat_of_zero_le (show 0 ≤ T + (l.length : Int) by omega)
            have wT : wrap64 (T + (l.length : Int)) = I := by rw [hI]; unfold wrap64; omega
          case' neg =>
            obtain ⟨I, hI⟩ := Int.eq_ofNat_of_zero_le (show 0 ≤ T by omega)
          all_goals
            have hIl : I < l.length := by omega
            have hIi : (I : Int) < (l.length : Int) := by omega
          case' neg => subst hI
          case' pos =>
            have HTI := Lib.hid hI
            clear hI wT
          all_goals
            go_wp2_with ((with_reducible refine at_list ?_); (with_reducible refine cut_at 117 rfl ?_))
            refine Cut.go ?_
          all_goals
            first | rw [HTI.out] | skip
            obtain ⟨x, hx⟩ : ∃ x, l[I]? = some x := ⟨_, List.getElem?_eq_getElem hIl⟩
            obtain ⟨vm, w7, hrun, hRm, hb7⟩ := copyI_run l A c w6 HL6.out (by omega)
            obtain ⟨gm, cm, rfl, _, hgm⟩ := World.ownsRow.form hRm (by omega)
            have hB7 := below_trans hB6 hb7 hB6.size
            have B7 := B6.keep hb7
            have HX := Lib.hid hx
            clear hb7 hx c1 lB
            go_wp2_with (at_builtin; refine wpList_app rfl (by rfl) (by rfl) (by rfl) hrun ?_)
            clear hrun
            refine wp_region_z [(0, true), (1, true), (2, true), (3, true), (4, true), (5, true), (6, true), (7, true), (8, true), (9, true)] 10 (fun w' => Below w7.heap.size w7 w') (by kernel_rfl) (by kernel_rfl) (by kernel_rfl) ((Below.refl _ _).drew) rfl ?_
            intro KP RP TP hKP hTP hTP'
            simp only [pick, nth]
            go_wp2_with (first
              | (apply SeqP.skip; rfl; simp only [Act.put, List.setIfInBounds_toArray, List.set_cons_zero, List.set_cons_succ])
              | (apply SeqP.call; rfl; rfl; (intro w2 hw; have hw := hTP _ hw; ((have z0 := RowI.at_ (RowI.keep hRm hw) HX.out; have z1 := (B7.keep hw).cell 1; simp at z1)); go_simp; exact ⟨rfl, rfl⟩); (intro w2 hw; have hw := hTP _ hw; ((have z0 := RowI.at_ (RowI.keep hRm hw) HX.out; have z1 := (B7.keep hw).cell 1; simp at z1)); (first | fail)); simp only [Act.put, List.setIfInBounds_toArray, List.set_cons_zero, List.set_cons_succ])
              | (apply SeqP.pure; rfl; (intro w2 hw; have hw := hTP _ hw; ((have z0 := RowI.at_ (RowI.keep hRm hw) HX.out; have z1 := (B7.keep hw).cell 1; simp at z1)); go_simp; with_reducible rfl); simp only [Act.put, List.setIfInBounds_toArray, List.set_cons_zero, List.set_cons_succ])
              | (apply SeqP.split; rfl; rfl; all_goals (intro hc; simp only [hc]; try simp only [beq_iff_eq, decide_eq_true_eq, beq_eq_false_iff_ne, decide_eq_false_iff_not, bne_iff_ne, ne_eq, Bool.not_eq_true', Bool.not_eq_false', Int.not_le, Int.not_lt, bne_eq_false_iff_eq, Bool.or_eq_true, Bool.and_eq_true, Bool.or_eq_false_iff] at hc)))
            apply SeqP.nil
            apply LastZ.eff
            · rfl
            have z0 := RowI.at_ hRm HX.out
            have fr := fun k => hRm.frozenAt k
            have R8 := ownsRow_drew (RowI.set hRm I (max x r1))
            have hB8 := (hB7.setCell (p := ⟨gm, I, none⟩) (by show w.heap.size ≤ gm; have := hB6.size; omega) (.int .i64 (max x r1))).drew
            have N8 := rowI_nums R8
            have hsl : (l.set I (max x r1)).length = l.length := List.length_set
            obtain ⟨u, hu, hku⟩ := most_kth (l := l.set I (max x r1)) (n := n) ⟨HK.out.2.1.1, by rw [hsl]; exact HK.out.2.1.2.1, by rw [hsl]; exact HK.out.2.1.2.2⟩
            rw [HK.out.2.2] at hku
            have hmu := kth_raised HX.out (Int.le_max_left x r1) HK.out.1 hku
            have H4 := Lib.hid (And.intro hB8 (most_in (m := l.length) (l.set I (max x r1)) hsl.symm (some ⟨gm, 0, none⟩) cm n hu _ N8 (by omega)))
            clear R8 hB8 N8 hsl hu hku hgm HK HX HL6
            go_wp2_with fail
            refine H4.out.2.mono ?_
            rintro r w9 ⟨rfl, hb⟩
            have hB9 := below_trans H4.out.1 hb H4.out.1.size
            have hz9 := hB9.size
            clear hb H4 hRm B7 hB7 z0 fr hB6
            go_wp2_with fail
            refine (works_any _).mono ?_
            rintro r w10 ⟨rfl, hb⟩
            have hB10 := below_trans hB9 hb hz9
            go_wp2_with fail
            go_ret
            exact ⟨rfl, hB10⟩
end Go.Proofs.Ytlineikeafepcaa
