/-
  The walk over the statement 'LeasesApart'.
-/
import Derived.Test.YtigkfekidmjpbaaLeasesPlayW
import Derived.Test.YtigkfekidmjpbaaOpen
set_option linter.unusedSimpArgs false
set_option linter.unusedVariables false
namespace Go.Proofs.Ytigkfekidmjpbaa
open Go.RowKit Go.Sq Go.Im Go.Wd

/-- What a round holds on to: two books, an act in a block of its own. -/
def Inv2 (w0 w : World) (A : Option Addr) (n b m o q x nb no : Nat) (gr : Int) (G H : Int → Option (Int × Int)) (k s ep now : Int) : Prop :=
  Below w0.heap.size w0 w ∧ Acts w w0.heap.size A n ∧ Bk w b m nb gr G ∧ Bk w o q no gr H ∧ Blk w x 41 [.int .u8 k, .int .i64 s, .int .i64 ep, .int .i64 now] ∧ w0.heap.size ≤ w.heap.size

section
variable {w0 w w' : World} {A : Option Addr} {n b m o q x nb no : Nat} {gr : Int} {G H : Int → Option (Int × Int)} {k s ep now : Int}
theorem Inv2.pure (h : Inv2 w0 w A n b m o q x nb no gr G H k s ep now) (hb : Below w.heap.size w w') : Inv2 w0 w' A n b m o q x nb no gr G H k s ep now := by
  obtain ⟨h1, h2, h3, h4, h5, h6⟩ := h
  exact ⟨below_trans h1 hb h6, h2.below (hb.mono h6), h3.below hb, h4.below hb, h5.keep hb, Nat.le_trans h6 hb.size⟩
theorem Inv2.left {nb' : Nat} {G' : Int → Option (Int × Int)} (h : Inv2 w0 w A n b m o q x nb no gr G H k s ep now) (hk : Bk w' b m nb' gr G') (hg : w.grownBy w' (some m)) (hm : w0.heap.size ≤ m) (hmo : m ≠ o) (hmq : m ≠ q) (hmx : m ≠ x) :
    Inv2 w0 w' A n b m o q x nb' no gr G' H k s ep now := by
  obtain ⟨h1, h2, h3, h4, h5, h6⟩ := h
  exact ⟨below_only h1 hg hm h6, h2.grown hg hm h6, hk, h4.kept hg (by simp; omega) (by simp; omega), h5.grown hg (by simp; omega), Nat.le_trans h6 hg.size⟩
theorem Inv2.right {no' : Nat} {H' : Int → Option (Int × Int)} (h : Inv2 w0 w A n b m o q x nb no gr G H k s ep now) (hk : Bk w' o q no' gr H') (hg : w.grownBy w' (some q)) (hm : w0.heap.size ≤ q) (hbq : b ≠ q) (hmq : m ≠ q) (hqx : q ≠ x) :
    Inv2 w0 w' A n b m o q x nb no' gr G H' k s ep now := by
  obtain ⟨h1, h2, h3, h4, h5, h6⟩ := h
  exact ⟨below_only h1 hg hm h6, h2.grown hg hm h6, h3.kept hg (by simp; omega) (by simp; omega), hk, h5.grown hg (by simp; omega), Nat.le_trans h6 hg.size⟩
theorem Inv2.box (h : Inv2 w0 w A n b m o q x nb no gr G H k s ep now) :
    w.cell? ⟨x, 0, none⟩ = some (.int .u8 k) ∧ w.cell? ⟨x, 1, none⟩ = some (.int .i64 s) ∧ w.cell? ⟨x, 2, none⟩ = some (.int .i64 ep) ∧ w.cell? ⟨x, 3, none⟩ = some (.int .i64 now) :=
  ⟨h.2.2.2.2.1.cell 0, h.2.2.2.2.1.cell 1, h.2.2.2.2.1.cell 2, h.2.2.2.2.1.cell 3⟩
end

theorem grant_same {G H : Int → Option (Int × Int)} {a ep now : Int} (h : G a = H a) : grantL G a ep now a = grantL H a ep now a := by simp [grantL, h]
theorem grant_other {G H : Int → Option (Int × Int)} {a s ep now : Int} (h : G a = H a) (hs : s ≠ a) : grantL G s ep now a = H a := by simp [grantL, Ne.symm hs, h]
theorem rel_same {G H : Int → Option (Int × Int)} {a ep : Int} (h : G a = H a) : relL G a ep a = relL H a ep a := by simp [relL, h]
theorem rel_other {G H : Int → Option (Int × Int)} {a s ep : Int} (h : G a = H a) (hs : s ≠ a) : relL G s ep a = H a := by simp [relL, Ne.symm hs, h]

set_option maxRecDepth 100000 in
set_option maxHeartbeats 4000000 in
theorem leasesApart_walk (one two : Int) (A : Option Addr) (n c : Nat) (w : World) (h10 : 0 ≤ one) (h11 : one ≤ 255) (h20 : 0 ≤ two) (h21 : two ≤ 255) (hA : Acts w w.heap.size A n) (hn : n ≤ 9223372036854775807) :
    Calls Try.prog 6 #[.slice A n c, .int .u8 one, .int .u8 two] w fun e w' => e = .returned (.bool true) ∧ Below w.heap.size w w' := by
  by_cases hbad : 100 < n ∨ one % 4 = two % 4
  · by_cases hbad1 : 100 < n
    all_goals
      try (have hb2 : (one % 4 == two % 4) = true := by simp; omega)
      clear hbad
      go_enter Try.func6, Try.ntmps6
      go_wp2_with fail
      refine (lives_walk _).mono ?_
      rintro e wz ⟨rfl, hbz⟩
      go_wp2_with fail
      go_ret
      exact ⟨rfl, hbz⟩
  · have n1 : n ≤ 100 := by omega
    have hne : (one % 4 == two % 4) = false := by simp; omega
    have HN : Hid (¬ one % 4 = two % 4) := Lib.hid (by omega)
    clear hbad
    go_enter Try.func6, Try.ntmps6
    go_wp2_with fail
    refine (lnew_any 0 (by omega) false _).mono ?_
    rintro e w3 ⟨b, m, rfl, hk3, hb3, hb, hm⟩
    go_wp2_with fail
    refine (lnew_any 0 (by omega) false _).mono ?_
    rintro e w4 ⟨o, q, rfl, hk4, hb4, ho, hq⟩
    have hblt : b < w3.heap.size := World.block_lt_of_cell? _ _ hk3.1
    have hmlt := hk3.2.2.2.lt
    have hbm := hk3.ne
    have hoq := hk4.ne
    have hw4 := below_trans hb3 hb4 hb3.size
    have hk3' := hk3.below hb4
    have hge : w.heap.size ≤ w3.heap.size := hb3.size
    clear hb4 hk3
    go_wp2_with fail
    generalize graceL false 0 = gr at hk3' hk4
    have hA4 := hA.below hw4
    have a0 : 0 ≤ one % 4 := by omega
    have a1 : one % 4 < 4 := by omega
    have HA : Hid (∃ z, z = one % 4) := Lib.hid ⟨_, rfl⟩
    generalize one % 4 = a at *
    generalize two % 4 = cc at *
    have hbo : b ≠ o := by omega
    have hbq : b ≠ q := by omega
    have hmo : m ≠ o := by omega
    have hmq : m ≠ q := by omega
    have hqge : w.heap.size ≤ q := by omega
    clear hblt hmlt hge ho hq hA hb3 HA
    go_loopg [11] n (fun k i wr => ∃ j : Nat, k = n - j ∧ j ≤ n ∧ i = .int .i64 j ∧ Below w.heap.size w wr ∧ Acts wr w.heap.size A n ∧ ∃ G H nb no, nb ≤ j ∧ no ≤ j ∧ Bk wr b m nb gr G ∧ Bk wr o q no gr H ∧ G a = H a)
    case atStart => exact ⟨0, rfl, by omega, rfl, hw4, hA4, _, _, 0, 0, by omega, by omega, hk3', hk4, rfl⟩
    case round =>
      clear hw4 hA4 hk3' hk4
      obtain ⟨j, hk, hj, rfl, hwr, hA, G, H, nb, no, hnb, hno, hkr, hRr, hG⟩ := hrel
      have AA : Aside (gk = n - j ∧ nb ≤ j ∧ no ≤ j ∧ G a = H a) := ⟨hk, hnb, hno, hG⟩
      clear hk hnb hno hG
      by_cases hlt : j < n
      · obtain ⟨ab, off, rfl, hB, k, s, ep, now, hk0, hk1, hs, hnow, c1, c2, c3, c4⟩ := hA j hlt
        have hI : Inv2 w (wr.alloc (.cells #[.int .u8 k, .int .i64 s, .int .i64 ep, .int .i64 now] 41)) (some ⟨ab, off, none⟩) n b m o q wr.heap.size nb no gr G H k s ep now :=
          ⟨hwr.alloc hwr.size _, hA.below ((Below.refl _ _).alloc hwr.size _), hkr.kept (World.grownBy_alloc _ _ none) (by simp) (by simp), hRr.kept (World.grownBy_alloc _ _ none) (by simp) (by simp), Blk.new wr _ [_, _, _, _], by have := hwr.size; simp; omega⟩
        have hxm : m ≠ wr.heap.size := by have := hkr.2.2.2.lt; omega
        have hxq : q ≠ wr.heap.size := by have := hRr.2.2.2.lt; omega
        clear hwr hA hkr hRr
        by_cases h0 : now < 0 ∨ (s ≠ a ∧ s ≠ cc)
        · have hz : (decide (now < 0) || (s != a && s != cc)) = true := by simpa using h0
          go_wp2_with fail
          all_goals
            first
            | (exfalso; clear hz; (try simp only [beq_iff_eq, decide_eq_true_eq, beq_eq_false_iff_ne, decide_eq_false_iff_not, bne_iff_ne, ne_eq, Bool.not_eq_true', Bool.not_eq_false', Int.not_le, Int.not_lt, not_false_eq_true, bne_eq_false_iff_eq] at *); omega)
            | (go_roundg (n - (j + 1))
               case measure => have hkk := AA.out.1; omega
               case rel => exact ⟨j + 1, rfl, by omega, by go_num, hI.1, hI.2.1, G, H, nb, no, by have := AA.out; omega, by have := AA.out; omega, hI.2.2.1, hI.2.2.2.1, AA.out.2.2.2⟩)
        · obtain ⟨h0', hss⟩ : 0 ≤ now ∧ (a = s ∨ cc = s) := by omega
          have hwa : (Lit.int .i64 a).wf = true := i64_wf (by omega) (by omega)
          clear h0
          rcases hss with hss | hss
          · subst hss
            by_cases h12 : k % 4 = 1 ∨ k % 4 = 2
            case' pos =>
              rcases h12 with h12 | h12
              all_goals
                go_wp2_with fail
                refine (lgrant_any b m nb (by have := AA.out; simp only [maxLen]; omega) gr G a ep now hs hnow _ hI.2.2.1).mono ?_
                rintro e w2 ⟨rfl, hk2, hg2⟩
                have hI2 := Inv2.left hI hk2 hg2 hm hmo hmq hxm
                clear hk2 hg2
                obtain ⟨q0, q1, q2, q3⟩ := hI2.box
                go_wp2_with fail
                refine (lgrant_any o q no (by have := AA.out; simp only [maxLen]; omega) gr H a ep now hs hnow _ hI2.2.2.2.1).mono ?_
                rintro e w3 ⟨rfl, hk3, hg3⟩
                have hI3 := Inv2.right hI2 hk3 hg3 hqge hbq hmq hxq
                clear hk3 hg3 q0 q1 q2 q3
                obtain ⟨nb', no', G', H', hT, hnb', hno', hG'⟩ : ∃ nb' no' G' H', Inv2 w w3 (some ⟨ab, off, none⟩) n b m o q wr.heap.size nb' no' gr G' H' k a ep now ∧ nb' ≤ j + 1 ∧ no' ≤ j + 1 ∧ G' a = H' a := ⟨_, _, _, _, hI3, by have := AA.out; omega, by have := AA.out; omega, grant_same AA.out.2.2.2⟩
            case' neg =>
              by_cases h3 : k % 4 = 3
              case' pos =>
                go_wp2_with fail
                refine (lrelease_any b m nb (by have := AA.out; simp only [maxLen]; omega) gr G a ep hs _ hI.2.2.1).mono ?_
                rintro e w2 ⟨rfl, hk2, hg2⟩
                have hI2 := Inv2.left hI hk2 hg2 hm hmo hmq hxm
                clear hk2 hg2
                obtain ⟨q0, q1, q2, q3⟩ := hI2.box
                go_wp2_with fail
                refine (lrelease_any o q no (by have := AA.out; simp only [maxLen]; omega) gr H a ep hs _ hI2.2.2.2.1).mono ?_
                rintro e w3 ⟨rfl, hk3, hg3⟩
                have hI3 := Inv2.right hI2 hk3 hg3 hqge hbq hmq hxq
                clear hk3 hg3 q0 q1 q2 q3
                obtain ⟨nb', no', G', H', hT, hnb', hno', hG'⟩ : ∃ nb' no' G' H', Inv2 w w3 (some ⟨ab, off, none⟩) n b m o q wr.heap.size nb' no' gr G' H' k a ep now ∧ nb' ≤ j + 1 ∧ no' ≤ j + 1 ∧ G' a = H' a := ⟨_, _, _, _, hI3, by have := AA.out; omega, by have := AA.out; omega, rel_same AA.out.2.2.2⟩
              case' neg =>
                have hT := hI
                obtain ⟨nb', no', G', H', hT, hnb', hno', hG'⟩ : ∃ nb' no' G' H', Inv2 w (wr.alloc (.cells #[.int .u8 k, .int .i64 a, .int .i64 ep, .int .i64 now] 41)) (some ⟨ab, off, none⟩) n b m o q wr.heap.size nb' no' gr G' H' k a ep now ∧ nb' ≤ j + 1 ∧ no' ≤ j + 1 ∧ G' a = H' a := ⟨_, _, _, _, hI, by have := AA.out; omega, by have := AA.out; omega, AA.out.2.2.2⟩
            all_goals
              have HG := Lib.hid hG'
              clear hG'
              obtain ⟨q0, q1, q2, q3⟩ := hT.box
              go_wp2_with fail
              refine (lholder_any b m _ _ _ a now hwa _ hT.2.2.1).mono ?_
              rintro e y1 ⟨rfl, hb1⟩
              have hT1 := hT.pure hb1
              clear q0 q1 q2 q3 hb1 hT
              rw [HG.out]
              obtain ⟨q0, q1, q2, q3⟩ := hT1.box
              go_wp2_with fail
              refine (lholder_any o q _ _ _ a now hwa _ hT1.2.2.2.1).mono ?_
              rintro e y2 ⟨rfl, hb2⟩
              have hT2 := hT1.pure hb2
              clear q0 q1 q2 q3 hb2 hT1
              generalize (holdL (H' a) now).1 = v1
              generalize (holdL (H' a) now).2 = v2
              have hboxB := hT2.2.2.2.2.1
              go_wp2_with fail
              refine wp_region_p ([(0, true), (1, true), (2, true), (3, true), (4, true), (5, true), (6, true), (7, true), (8, true), (9, true), (10, true), (11, true), (12, true), (13, true), (14, true), (16, true), (17, true), (18, true), (19, true), (20, true), (21, true), (15, false), (22, false), (23, true), (24, true)]) (fun w' => Blk w' wr.heap.size 41 [.int .u8 k, .int .i64 a, .int .i64 ep, .int .i64 now]) (by kernel_rfl) rfl (by kernel_rfl) (by kernel_rfl) (hboxB) rfl ?_
              intro KP RP TP hKP hTP hTP'
              simp only [pick, nth]
              go_wp2_with (first
                | (apply SeqP.skip; rfl; simp only [Act.put, List.setIfInBounds_toArray, List.set_cons_zero, List.set_cons_succ])
                | (apply SeqP.call; rfl; rfl; (intro w2 hw; have hw := hTP _ hw; ((have q1 := hw.cell 1; have q2 := hw.cell 2; have q3 := hw.cell 3; simp at q1 q2 q3)); go_simp; exact ⟨rfl, rfl⟩); (intro w2 hw; have hw := hTP _ hw; ((have q1 := hw.cell 1; have q2 := hw.cell 2; have q3 := hw.cell 3; simp at q1 q2 q3)); (first | fail)); simp only [Act.put, List.setIfInBounds_toArray, List.set_cons_zero, List.set_cons_succ])
                | (apply SeqP.pure; rfl; (intro w2 hw; have hw := hTP _ hw; ((have q1 := hw.cell 1; have q2 := hw.cell 2; have q3 := hw.cell 3; simp at q1 q2 q3)); go_simp; with_reducible rfl); simp only [Act.put, List.setIfInBounds_toArray, List.set_cons_zero, List.set_cons_succ])
                | (apply SeqP.split; rfl; rfl; all_goals (intro hc; simp only [hc]; try simp only [beq_iff_eq, decide_eq_true_eq, beq_eq_false_iff_ne, decide_eq_false_iff_not, bne_iff_ne, ne_eq, Bool.not_eq_true', Bool.not_eq_false', Int.not_le, Int.not_lt, bne_eq_false_iff_eq] at hc)))
              apply SeqP.eff
              · rfl
              intro KE hKE
              go_wp2_with fail
              have hID := hT2.pure (Below.refl _ _).drew
              refine (lmay_any b m nb' gr G' a ep now hwa _ hID.2.2.1).mono ?_
              rintro e y3 ⟨rfl, hb3⟩
              have hT3 := hID.pure hb3
              refine hKE _ _ (hTP' _ hT3.2.2.2.2.1) ?_
              rw [HG.out]
              apply SeqP.eff
              · rfl
              intro KE2 hKE2
              go_wp2_with fail
              refine (lmay_any o q no' gr H' a ep now hwa _ hT3.2.2.2.1).mono ?_
              rintro e y4 ⟨rfl, hb4⟩
              have hT4 := hT3.pure hb4
              refine hKE2 _ _ (hTP' _ hT4.2.2.2.2.1) ?_
              generalize mayL gr (H' a) ep now = v3
              go_wp2_with (first
                | (apply SeqP.skip; rfl; simp only [Act.put, List.setIfInBounds_toArray, List.set_cons_zero, List.set_cons_succ])
                | (apply SeqP.call; rfl; rfl; (intro w2 hw; have hw := hTP _ hw; (skip); go_simp; exact ⟨rfl, rfl⟩); (intro w2 hw; have hw := hTP _ hw; (skip); (first | fail)); simp only [Act.put, List.setIfInBounds_toArray, List.set_cons_zero, List.set_cons_succ])
                | (apply SeqP.pure; rfl; (intro w2 hw; have hw := hTP _ hw; (skip); go_simp; with_reducible rfl); simp only [Act.put, List.setIfInBounds_toArray, List.set_cons_zero, List.set_cons_succ])
                | (apply SeqP.split; rfl; rfl; all_goals (intro hc; simp only [hc]; try simp only [beq_iff_eq, decide_eq_true_eq, beq_eq_false_iff_ne, decide_eq_false_iff_not, bne_iff_ne, ne_eq, Bool.not_eq_true', Bool.not_eq_false', Int.not_le, Int.not_lt, bne_eq_false_iff_eq] at hc)))
              apply SeqP.nil
              refine hKP _ _ (hTP' _ hT4.2.2.2.2.1) ?_
              clear hKP hTP hTP' hKE hKE2 hID hT2 hT3 hb3 hb4
              go_wp2_with fail
              go_roundg (n - (j + 1))
              case measure => have hkk := AA.out.1; omega
              case rel => exact ⟨j + 1, rfl, by omega, by go_num, hT4.1, hT4.2.1, G', H', nb', no', hnb', hno', hT4.2.2.1, hT4.2.2.2.1, HG.out⟩
          · subst hss
            have hca : (cc == a) = false := by have := HN.out; simp; omega
            have HS : Hid (cc ≠ a) := Lib.hid (by have := HN.out; omega)
            by_cases h12 : k % 4 = 1 ∨ k % 4 = 2
            case' pos =>
              rcases h12 with h12 | h12
              all_goals
                go_wp2_with fail
                refine (lgrant_any b m nb (by have := AA.out; simp only [maxLen]; omega) gr G cc ep now hs hnow _ hI.2.2.1).mono ?_
                rintro e w2 ⟨rfl, hk2, hg2⟩
                have hI2 := Inv2.left hI hk2 hg2 hm hmo hmq hxm
                clear hk2 hg2
                obtain ⟨q0, q1, q2, q3⟩ := hI2.box
                go_wp2_with fail
                clear q0 q1 q2 q3
                obtain ⟨nb', no', G', H', hT, hnb', hno', hG'⟩ : ∃ nb' no' G' H', Inv2 w w2 (some ⟨ab, off, none⟩) n b m o q wr.heap.size nb' no' gr G' H' k cc ep now ∧ nb' ≤ j + 1 ∧ no' ≤ j + 1 ∧ G' a = H' a := ⟨_, _, _, _, hI2, by have := AA.out; omega, by have := AA.out; omega, grant_other AA.out.2.2.2 HS.out⟩
            case' neg =>
              by_cases h3 : k % 4 = 3
              case' pos =>
                go_wp2_with fail
                refine (lrelease_any b m nb (by have := AA.out; simp only [maxLen]; omega) gr G cc ep hs _ hI.2.2.1).mono ?_
                rintro e w2 ⟨rfl, hk2, hg2⟩
                have hI2 := Inv2.left hI hk2 hg2 hm hmo hmq hxm
                clear hk2 hg2
                obtain ⟨q0, q1, q2, q3⟩ := hI2.box
                go_wp2_with fail
                clear q0 q1 q2 q3
                obtain ⟨nb', no', G', H', hT, hnb', hno', hG'⟩ : ∃ nb' no' G' H', Inv2 w w2 (some ⟨ab, off, none⟩) n b m o q wr.heap.size nb' no' gr G' H' k cc ep now ∧ nb' ≤ j + 1 ∧ no' ≤ j + 1 ∧ G' a = H' a := ⟨_, _, _, _, hI2, by have := AA.out; omega, by have := AA.out; omega, rel_other AA.out.2.2.2 HS.out⟩
              case' neg =>
                have hT := hI
                obtain ⟨nb', no', G', H', hT, hnb', hno', hG'⟩ : ∃ nb' no' G' H', Inv2 w (wr.alloc (.cells #[.int .u8 k, .int .i64 cc, .int .i64 ep, .int .i64 now] 41)) (some ⟨ab, off, none⟩) n b m o q wr.heap.size nb' no' gr G' H' k cc ep now ∧ nb' ≤ j + 1 ∧ no' ≤ j + 1 ∧ G' a = H' a := ⟨_, _, _, _, hI, by have := AA.out; omega, by have := AA.out; omega, AA.out.2.2.2⟩
            all_goals
              have HG := Lib.hid hG'
              clear hG'
              obtain ⟨q0, q1, q2, q3⟩ := hT.box
              go_wp2_with fail
              refine (lholder_any b m _ _ _ a now hwa _ hT.2.2.1).mono ?_
              rintro e y1 ⟨rfl, hb1⟩
              have hT1 := hT.pure hb1
              clear q0 q1 q2 q3 hb1 hT
              rw [HG.out]
              obtain ⟨q0, q1, q2, q3⟩ := hT1.box
              go_wp2_with fail
              refine (lholder_any o q _ _ _ a now hwa _ hT1.2.2.2.1).mono ?_
              rintro e y2 ⟨rfl, hb2⟩
              have hT2 := hT1.pure hb2
              clear q0 q1 q2 q3 hb2 hT1
              generalize (holdL (H' a) now).1 = v1
              generalize (holdL (H' a) now).2 = v2
              have hboxB := hT2.2.2.2.2.1
              go_wp2_with fail
              refine wp_region_p ([(0, true), (1, true), (2, true), (3, true), (4, true), (5, true), (6, true), (7, true), (8, true), (9, true), (10, true), (11, true), (12, true), (13, true), (14, true), (16, true), (17, true), (18, true), (19, true), (20, true), (21, true), (15, false), (22, false), (23, true), (24, true)]) (fun w' => Blk w' wr.heap.size 41 [.int .u8 k, .int .i64 cc, .int .i64 ep, .int .i64 now]) (by kernel_rfl) rfl (by kernel_rfl) (by kernel_rfl) (hboxB) rfl ?_
              intro KP RP TP hKP hTP hTP'
              simp only [pick, nth]
              go_wp2_with (first
                | (apply SeqP.skip; rfl; simp only [Act.put, List.setIfInBounds_toArray, List.set_cons_zero, List.set_cons_succ])
                | (apply SeqP.call; rfl; rfl; (intro w2 hw; have hw := hTP _ hw; ((have q1 := hw.cell 1; have q2 := hw.cell 2; have q3 := hw.cell 3; simp at q1 q2 q3)); go_simp; exact ⟨rfl, rfl⟩); (intro w2 hw; have hw := hTP _ hw; ((have q1 := hw.cell 1; have q2 := hw.cell 2; have q3 := hw.cell 3; simp at q1 q2 q3)); (first | fail)); simp only [Act.put, List.setIfInBounds_toArray, List.set_cons_zero, List.set_cons_succ])
                | (apply SeqP.pure; rfl; (intro w2 hw; have hw := hTP _ hw; ((have q1 := hw.cell 1; have q2 := hw.cell 2; have q3 := hw.cell 3; simp at q1 q2 q3)); go_simp; with_reducible rfl); simp only [Act.put, List.setIfInBounds_toArray, List.set_cons_zero, List.set_cons_succ])
                | (apply SeqP.split; rfl; rfl; all_goals (intro hc; simp only [hc]; try simp only [beq_iff_eq, decide_eq_true_eq, beq_eq_false_iff_ne, decide_eq_false_iff_not, bne_iff_ne, ne_eq, Bool.not_eq_true', Bool.not_eq_false', Int.not_le, Int.not_lt, bne_eq_false_iff_eq] at hc)))
              apply SeqP.eff
              · rfl
              intro KE hKE
              go_wp2_with fail
              have hID := hT2.pure (Below.refl _ _).drew
              refine (lmay_any b m nb' gr G' a ep now hwa _ hID.2.2.1).mono ?_
              rintro e y3 ⟨rfl, hb3⟩
              have hT3 := hID.pure hb3
              refine hKE _ _ (hTP' _ hT3.2.2.2.2.1) ?_
              rw [HG.out]
              apply SeqP.eff
              · rfl
              intro KE2 hKE2
              go_wp2_with fail
              refine (lmay_any o q no' gr H' a ep now hwa _ hT3.2.2.2.1).mono ?_
              rintro e y4 ⟨rfl, hb4⟩
              have hT4 := hT3.pure hb4
              refine hKE2 _ _ (hTP' _ hT4.2.2.2.2.1) ?_
              generalize mayL gr (H' a) ep now = v3
              go_wp2_with (first
                | (apply SeqP.skip; rfl; simp only [Act.put, List.setIfInBounds_toArray, List.set_cons_zero, List.set_cons_succ])
                | (apply SeqP.call; rfl; rfl; (intro w2 hw; have hw := hTP _ hw; (skip); go_simp; exact ⟨rfl, rfl⟩); (intro w2 hw; have hw := hTP _ hw; (skip); (first | fail)); simp only [Act.put, List.setIfInBounds_toArray, List.set_cons_zero, List.set_cons_succ])
                | (apply SeqP.pure; rfl; (intro w2 hw; have hw := hTP _ hw; (skip); go_simp; with_reducible rfl); simp only [Act.put, List.setIfInBounds_toArray, List.set_cons_zero, List.set_cons_succ])
                | (apply SeqP.split; rfl; rfl; all_goals (intro hc; simp only [hc]; try simp only [beq_iff_eq, decide_eq_true_eq, beq_eq_false_iff_ne, decide_eq_false_iff_not, bne_iff_ne, ne_eq, Bool.not_eq_true', Bool.not_eq_false', Int.not_le, Int.not_lt, bne_eq_false_iff_eq] at hc)))
              apply SeqP.nil
              refine hKP _ _ (hTP' _ hT4.2.2.2.2.1) ?_
              clear hKP hTP hTP' hKE hKE2 hID hT2 hT3 hb3 hb4
              go_wp2_with fail
              go_roundg (n - (j + 1))
              case measure => have hkk := AA.out.1; omega
              case rel => exact ⟨j + 1, rfl, by omega, by go_num, hT4.1, hT4.2.1, G', H', nb', no', hnb', hno', hT4.2.2.1, hT4.2.2.2.1, HG.out⟩
      · go_wp2_with fail
        refine (lives_walk _).mono ?_
        rintro e wz ⟨rfl, hbz⟩
        go_wp2_with fail
        go_ret
        exact ⟨rfl, below_below hwr hbz hwr.size⟩
end Go.Proofs.Ytigkfekidmjpbaa
