/-
  The walk over the statement 'LeasesPlay'.
-/
import Derived.Test.YtigkfekidmjpbaaLeasesRel
import Derived.Deep.LoopGhost
import Derived.Test.YtigkfekidmjpbaaSeqP
set_option linter.unusedSimpArgs false
set_option linter.unusedVariables false
namespace Go.Proofs.Ytigkfekidmjpbaa
open Go.RowKit Go.Sq Go.Im Go.Wd

/-- Acts that came in, below block B. -/
def Acts (w : World) (B : Nat) (A : Option Addr) (n : Nat) : Prop :=
  ∀ i, i < n → ∃ b off, A = some ⟨b, off, none⟩ ∧ b < B ∧ ∃ k s ep now : Int, 0 ≤ k ∧ k ≤ 255 ∧ (Lit.int .i64 s).wf = true ∧ -9223372036854775808 ≤ now ∧
    w.cell? ⟨b, off + i * 4, none⟩ = some (.int .u8 k) ∧ w.cell? ⟨b, off + i * 4 + 1, none⟩ = some (.int .i64 s) ∧ w.cell? ⟨b, off + i * 4 + 2, none⟩ = some (.int .i64 ep) ∧ w.cell? ⟨b, off + i * 4 + 3, none⟩ = some (.int .i64 now)

theorem Acts.below {w w' : World} {B n : Nat} {A : Option Addr} (h : Acts w B A n) (hb : Below B w w') : Acts w' B A n := by
  intro i hi
  obtain ⟨b, off, ha, hB, k, s, ep, now, h1, h2, h3, h4, c1, c2, c3, c4⟩ := h i hi
  exact ⟨b, off, ha, hB, k, s, ep, now, h1, h2, h3, h4, (hb.cell (p := ⟨b, _, none⟩) hB).trans c1, (hb.cell (p := ⟨b, _, none⟩) hB).trans c2, (hb.cell (p := ⟨b, _, none⟩) hB).trans c3, (hb.cell (p := ⟨b, _, none⟩) hB).trans c4⟩

theorem Acts.grown {w0 w w' : World} {n m : Nat} {A : Option Addr} (h : Acts w w0.heap.size A n) (hg : w.grownBy w' (some m)) (hm : w0.heap.size ≤ m) (hs : w0.heap.size ≤ w.heap.size) : Acts w' w0.heap.size A n :=
  h.below ⟨hg.os, hg.tape, hg.output, hg.size, fun i hi => hg.block i (by omega) (by simp; omega)⟩

/-- What a round holds on to: the two books, an act in a block of its own. -/
def Inv (w0 w : World) (A : Option Addr) (n b m r x nn : Nat) (gr gr' : Int) (G : Int → Option (Int × Int)) (E U : Nat → Int) (k s ep now : Int) : Prop :=
  Below w0.heap.size w0 w ∧ Acts w w0.heap.size A n ∧ Bk w b m nn gr G ∧ RB w r gr' E U ∧ Blk w x 41 [.int .u8 k, .int .i64 s, .int .i64 ep, .int .i64 now] ∧ w0.heap.size ≤ w.heap.size

section
variable {w0 w w' : World} {A : Option Addr} {n b m r x nn : Nat} {gr gr' : Int} {G : Int → Option (Int × Int)} {E U : Nat → Int} {k s ep now : Int}
theorem Inv.pure (h : Inv w0 w A n b m r x nn gr gr' G E U k s ep now) (hb : Below w.heap.size w w') : Inv w0 w' A n b m r x nn gr gr' G E U k s ep now := by
  obtain ⟨h1, h2, h3, h4, h5, h6⟩ := h
  exact ⟨below_trans h1 hb h6, h2.below (hb.mono h6), h3.below hb, Blk.keep h4 hb, h5.keep hb, Nat.le_trans h6 hb.size⟩
theorem Inv.left {nn' : Nat} {G' : Int → Option (Int × Int)} (h : Inv w0 w A n b m r x nn gr gr' G E U k s ep now) (hk : Bk w' b m nn' gr G') (hg : w.grownBy w' (some m)) (hm : w0.heap.size ≤ m) (hmr : m ≠ r) (hmx : m ≠ x) :
    Inv w0 w' A n b m r x nn' gr gr' G' E U k s ep now := by
  obtain ⟨h1, h2, h3, h4, h5, h6⟩ := h
  exact ⟨below_only h1 hg hm h6, h2.grown hg hm h6, hk, Blk.grown h4 hg (by simp; omega), h5.grown hg (by simp; omega), Nat.le_trans h6 hg.size⟩
theorem Inv.right {E' U' : Nat → Int} (h : Inv w0 w A n b m r x nn gr gr' G E U k s ep now) (hk : RB w' r gr' E' U') (hg : w.grownBy w' (some r)) (hr : w0.heap.size ≤ r) (hmr : m ≠ r) (hbr : b ≠ r) (hrx : r ≠ x) :
    Inv w0 w' A n b m r x nn gr gr' G E' U' k s ep now := by
  obtain ⟨h1, h2, h3, h4, h5, h6⟩ := h
  exact ⟨below_only h1 hg hr h6, h2.grown hg hr h6, h3.kept hg (by simp; omega) (by simp; omega), hk, h5.grown hg (by simp; omega), Nat.le_trans h6 hg.size⟩
theorem Inv.box (h : Inv w0 w A n b m r x nn gr gr' G E U k s ep now) :
    w.cell? ⟨x, 0, none⟩ = some (.int .u8 k) ∧ w.cell? ⟨x, 1, none⟩ = some (.int .i64 s) ∧ w.cell? ⟨x, 2, none⟩ = some (.int .i64 ep) ∧ w.cell? ⟨x, 3, none⟩ = some (.int .i64 now) :=
  ⟨h.2.2.2.2.1.cell 0, h.2.2.2.2.1.cell 1, h.2.2.2.2.1.cell 2, h.2.2.2.2.1.cell 3⟩
end

set_option maxRecDepth 100000 in
set_option maxHeartbeats 4000000 in
theorem leasesPlay_walk (st : Int) (re : Bool) (A : Option Addr) (n c : Nat) (w : World) (hst : (Lit.int .i64 st).wf = true) (hA : Acts w w.heap.size A n) (hn : n ≤ 9223372036854775807) :
    Calls Try.prog 4 #[.int .i64 st, .bool re, .slice A n c] w fun e w' => e = .returned (.bool true) ∧ Below w.heap.size w w' := by
  by_cases hbad : 200 < n ∨ st < 0
  · go_enter Try.func4, Try.ntmps4
    go_wp2_with fail
    all_goals (refine (lives_walk _).mono ?_; rintro e wz ⟨rfl, hbz⟩; go_wp2_with fail; go_ret; exact ⟨rfl, hbz⟩)
  · have n1 : n ≤ 200 := by omega
    have n2 : 0 ≤ st := by omega
    clear hbad
    cases re
    case' false =>
      go_enter Try.func4, Try.ntmps4
      go_wp2_with fail
      refine (lnew_any st (by omega) false _).mono ?_
      rintro e w3 ⟨b, m, rfl, hk3, hb3, hb, hm⟩
      have hR : RB (w3.alloc (.cells #[.int .i64 (-4611686018427387904), .int .i64 0, .int .i64 0, .int .i64 0, .int .i64 0, .int .i64 0, .int .i64 0, .int .i64 0, .int .i64 0] 38)) w3.heap.size (-4611686018427387904) (fun _ => 0) (fun _ => 0) := Blk.new w3 _ [_, _, _, _, _, _, _, _, _]
      have hgr : graceL false st = -4611686018427387904 ∨ (graceL false st ≤ 0 ∧ (-4611686018427387904 : Int) ≤ 0) := .inr ⟨by simp [graceL], by omega⟩
      generalize graceL false st = gr at hk3 hgr
      have HR := Lib.hid (And.intro hR hgr)
      clear hR hgr
      go_wp2_with fail
      obtain ⟨hR, hgr⟩ := HR.out
      clear HR
    case' true =>
      go_enter Try.func4, Try.ntmps4
      go_wp2_with fail
      refine (lnew_any st (by omega) true _).mono ?_
      rintro e w3 ⟨b, m, rfl, hk3, hb3, hb, hm⟩
      have hR : RB (w3.alloc (.cells #[.int .i64 (afterS st), .int .i64 0, .int .i64 0, .int .i64 0, .int .i64 0, .int .i64 0, .int .i64 0, .int .i64 0, .int .i64 0] 38)) w3.heap.size (afterS st) (fun _ => 0) (fun _ => 0) := Blk.new w3 _ [_, _, _, _, _, _, _, _, _]
      have hgr : graceL true st = afterS st ∨ (graceL true st ≤ 0 ∧ afterS st ≤ 0) := .inl (by simp [graceL])
      generalize graceL true st = gr at hk3 hgr
      have HR := Lib.hid (And.intro hR hgr)
      clear hR hgr
      go_wp2_with fail
      refine (over_any st (by omega) _).mono ?_
      rintro e w4 ⟨rfl, rfl⟩
      go_wp2_with fail
      obtain ⟨hR, hgr⟩ := HR.out
      clear HR
    all_goals
      have hblt : b < w3.heap.size := World.block_lt_of_cell? _ _ hk3.1
      have hmlt := hk3.2.2.2.lt
      have hbm := hk3.ne
      have hrb : b ≠ w3.heap.size := by omega
      have hrm : m ≠ w3.heap.size := by omega
      generalize hreq : w3.heap.size = r at hrb hrm hR
      have hrge : w.heap.size ≤ r := by have := hb3.size; omega
      have HQ := Lib.hid hreq
      clear hreq hblt hmlt hst
      go_loopg [9] n (fun k i wr => ∃ j : Nat, k = n - j ∧ j ≤ n ∧ i = .int .i64 j ∧ Below w.heap.size w wr ∧ Acts wr w.heap.size A n ∧ ∃ gr gr' G E U nn, nn ≤ 2 * j ∧ (gr = gr' ∨ (gr ≤ 0 ∧ gr' ≤ 0)) ∧ Bk wr b m nn gr G ∧ RB wr r gr' E U ∧ Alike G E U)
      case atStart => exact ⟨0, rfl, by omega, rfl, hb3.alloc hb3.size _, hA.below (hb3.alloc hb3.size _), _, _, _, _, _, 0, by omega, hgr, hk3.kept (World.grownBy_alloc _ _ none) (by simp) (by simp), hR, alike_start⟩
      case round =>
        clear hR hgr hk3 hA hb3 HQ
        obtain ⟨j, hk, hj, rfl, hwr, hA, gr, gr', G, E, U, nn, hnn, hgr, hkr, hRr, hG⟩ := hrel
        have AA : Aside (gk = n - j ∧ nn ≤ 2 * j ∧ (gr = gr' ∨ (gr ≤ 0 ∧ gr' ≤ 0)) ∧ Alike G E U) := ⟨hk, hnn, hgr, hG⟩
        clear hk hnn hgr hG
        by_cases hlt : j < n
        · obtain ⟨ab, off, rfl, hB, k, s, ep, now, hk0, hk1, hs, hnow, c1, c2, c3, c4⟩ := hA j hlt
          have hI : Inv w (wr.alloc (.cells #[.int .u8 k, .int .i64 s, .int .i64 ep, .int .i64 now] 41)) (some ⟨ab, off, none⟩) n b m r wr.heap.size nn gr gr' G E U k s ep now :=
            ⟨hwr.alloc hwr.size _, hA.below ((Below.refl _ _).alloc hwr.size _), hkr.kept (World.grownBy_alloc _ _ none) (by simp) (by simp), Blk.alloc hRr _, Blk.new wr _ [_, _, _, _], by have := hwr.size; simp; omega⟩
          have hxm : m ≠ wr.heap.size := by have := hkr.2.2.2.lt; omega
          have hxr : r ≠ wr.heap.size := by have := Blk.lt hRr; omega
          clear hwr hA hkr hRr
          by_cases h0 : now < 0
          · go_wp2_with fail
            go_roundg (n - (j + 1))
            case measure => have hkk := AA.out.1; omega
            case rel => exact ⟨j + 1, rfl, by omega, by go_num, hI.1, hI.2.1, gr, gr', G, E, U, nn, by have := AA.out; omega, AA.out.2.2.1, hI.2.2.1, hI.2.2.2.1, AA.out.2.2.2⟩
          · have h0' : 0 ≤ now := by omega
            clear h0
            have hIbox := hI.2.2.2.2.1
            by_cases h12 : k % 4 = 1 ∨ k % 4 = 2
            case' pos =>
              rcases h12 with h12 | h12
              all_goals
                go_wp2_with fail
                refine wp_region_p ([(0, true), (1, true), (2, true), (3, true), (4, true), (5, true), (6, true), (8, true), (9, true), (10, true), (11, true), (12, true), (13, true), (14, true), (7, false), (15, false), (16, true)]) (fun w' => Blk w' wr.heap.size 41 [.int .u8 k, .int .i64 s, .int .i64 ep, .int .i64 now]) (by kernel_rfl) rfl (by kernel_rfl) (by kernel_rfl) (hIbox) rfl ?_
                intro KP RP TP hKP hTP hTP'
                simp only [pick, nth]
                go_wp2_with (first
                  | (apply SeqP.skip; rfl; simp only [Act.put, List.setIfInBounds_toArray, List.set_cons_zero, List.set_cons_succ])
                  | (apply SeqP.call; rfl; rfl; (intro w2 hw; have hw := hTP _ hw; ((have q1 := hw.cell 1; have q2 := hw.cell 2; have q3 := hw.cell 3; simp at q1 q2 q3)); go_simp; exact ⟨rfl, rfl⟩); (intro w2 hw; have hw := hTP _ hw; ((have q1 := hw.cell 1; have q2 := hw.cell 2; have q3 := hw.cell 3; simp at q1 q2 q3)); (first | fail)); simp only [Act.put, List.setIfInBounds_toArray, List.set_cons_zero, List.set_cons_succ])
                  | (apply SeqP.pure; rfl; (intro w2 hw; have hw := hTP _ hw; ((have q1 := hw.cell 1; have q2 := hw.cell 2; have q3 := hw.cell 3; simp at q1 q2 q3)); go_simp; with_reducible rfl); simp only [Act.put, List.setIfInBounds_toArray, List.set_cons_zero, List.set_cons_succ])
                  | (apply SeqP.split; rfl; rfl; all_goals (intro hc; simp only [hc]; try simp only [beq_iff_eq, decide_eq_true_eq, beq_eq_false_iff_ne, decide_eq_false_iff_not, bne_iff_ne, ne_eq, Bool.not_eq_true', Bool.not_eq_false', Int.not_le, Int.not_lt, bne_eq_false_iff_eq] at hc)))
                apply SeqP.eff
                · rfl
                intro KE hKE
                go_wp2_with fail
                have hID := hI.pure (Below.refl _ _).drew
                refine (lgrant_any b m nn (by have := AA.out; simp only [maxLen]; omega) gr G s ep now hs hnow _ hID.2.2.1).mono ?_
                rintro e w2 ⟨rfl, hk2, hg2⟩
                have hI2 := Inv.left hID hk2 hg2 hm hrm hxm
                refine hKE _ _ (hTP' _ hI2.2.2.2.2.1) ?_
                clear hk2 hg2
                apply SeqP.eff
                · rfl
                intro KE2 hKE2
                go_wp2_with fail
                refine (rgrant_any r gr' E U s ep now hnow _ hI2.2.2.2.1).mono ?_
                rintro e w3 ⟨rfl, hk3, hg3⟩
                have hI3 := Inv.right hI2 hk3 hg3 hrge hrm hrb hxr
                refine hKE2 _ _ (hTP' _ hI3.2.2.2.2.1) ?_
                clear hk3 hg3 hI2
                go_wp2_with (first
                  | (apply SeqP.skip; rfl; simp only [Act.put, List.setIfInBounds_toArray, List.set_cons_zero, List.set_cons_succ])
                  | (apply SeqP.call; rfl; rfl; (intro w2 hw; have hw := hTP _ hw; (skip); go_simp; exact ⟨rfl, rfl⟩); (intro w2 hw; have hw := hTP _ hw; (skip); (first | fail)); simp only [Act.put, List.setIfInBounds_toArray, List.set_cons_zero, List.set_cons_succ])
                  | (apply SeqP.pure; rfl; (intro w2 hw; have hw := hTP _ hw; (skip); go_simp; with_reducible rfl); simp only [Act.put, List.setIfInBounds_toArray, List.set_cons_zero, List.set_cons_succ])
                  | (apply SeqP.split; rfl; rfl; all_goals (intro hc; simp only [hc]; try simp only [beq_iff_eq, decide_eq_true_eq, beq_eq_false_iff_ne, decide_eq_false_iff_not, bne_iff_ne, ne_eq, Bool.not_eq_true', Bool.not_eq_false', Int.not_le, Int.not_lt, bne_eq_false_iff_eq] at hc)))
                apply SeqP.nil
                refine hKP _ _ (hTP' _ hI3.2.2.2.2.1) ?_
                clear hKP hTP hTP' hKE hKE2 hID
                obtain ⟨nn', G', E', U', hT, hnn', hG'⟩ : ∃ nn' G' E' U', Inv w w3 (some ⟨ab, off, none⟩) n b m r wr.heap.size nn' gr gr' G' E' U' k s ep now ∧ nn' ≤ 2 * (j + 1) ∧ Alike G' E' U' :=
                  ⟨_, _, _, _, hI3, by have := AA.out; omega, alike_grant AA.out.2.2.2 h0'⟩
                clear hI3
            case' neg =>
              by_cases h3 : k % 4 = 3
              case' pos =>
                go_wp2_with fail
                refine (lrelease_any b m nn (by have := AA.out; simp only [maxLen]; omega) gr G s ep hs _ hI.2.2.1).mono ?_
                rintro e w2 ⟨rfl, hk2, hg2⟩
                have hI2 := Inv.left hI hk2 hg2 hm hrm hxm
                clear hk2 hg2
                obtain ⟨q0, q1, q2, q3⟩ := hI2.box
                go_wp2_with fail
                refine (rrelease_any r gr' E U s ep _ hI2.2.2.2.1).mono ?_
                rintro e w3 ⟨rfl, hk3, hg3⟩
                have hI3 := Inv.right hI2 hk3 hg3 hrge hrm hrb hxr
                clear q0 q1 q2 q3 hk3 hg3 hI2
                obtain ⟨nn', G', E', U', hT, hnn', hG'⟩ : ∃ nn' G' E' U', Inv w w3 (some ⟨ab, off, none⟩) n b m r wr.heap.size nn' gr gr' G' E' U' k s ep now ∧ nn' ≤ 2 * (j + 1) ∧ Alike G' E' U' :=
                  ⟨_, _, _, _, hI3, by have := AA.out; omega, alike_release AA.out.2.2.2⟩
                clear hI3
              case' neg =>
                obtain ⟨nn', G', E', U', hT, hnn', hG'⟩ : ∃ nn' G' E' U', Inv w (wr.alloc (.cells #[.int .u8 k, .int .i64 s, .int .i64 ep, .int .i64 now] 41)) (some ⟨ab, off, none⟩) n b m r wr.heap.size nn' gr gr' G' E' U' k s ep now ∧ nn' ≤ 2 * (j + 1) ∧ Alike G' E' U' :=
                  ⟨_, _, _, _, hI, by have := AA.out; omega, AA.out.2.2.2⟩
            all_goals
              have HG := Lib.hid hG'
              clear hG'
              obtain ⟨q0, q1, q2, q3⟩ := hT.box
              go_wp2_with fail
              refine (lholder_any b m _ _ _ s now hs _ hT.2.2.1).mono ?_
              rintro e y1 ⟨rfl, hb1⟩
              have hT1 := hT.pure hb1
              clear q0 q1 q2 q3 hb1 hT
              rw [alike_hold HG.out h0']
              obtain ⟨q0, q1, q2, q3⟩ := hT1.box
              go_wp2_with fail
              refine (rholder_any r gr' _ _ s now _ hT1.2.2.2.1).mono ?_
              rintro e y2 ⟨rfl, hb2⟩
              have hT2 := hT1.pure hb2
              clear q0 q1 q2 q3 hb2 hT1
              generalize (rholdL E' U' s now).1 = v1
              generalize (rholdL E' U' s now).2 = v2
              have hboxB := hT2.2.2.2.2.1
              go_wp2_with fail
              refine wp_region_p ([(0, true), (1, true), (2, true), (3, true), (4, true), (5, true), (6, true), (7, true), (8, true), (9, true), (10, true), (11, true), (12, true), (13, true), (14, true), (15, true), (17, true), (18, true), (19, true), (20, true), (21, true), (22, true), (23, true), (16, false), (24, false), (25, true), (26, true)]) (fun w' => Blk w' wr.heap.size 41 [.int .u8 k, .int .i64 s, .int .i64 ep, .int .i64 now]) (by kernel_rfl) rfl (by kernel_rfl) (by kernel_rfl) (hboxB) rfl ?_
              intro KP RP TP hKP hTP hTP'
              simp only [pick, nth]
              go_wp2_with (first
                | (apply SeqP.skip; rfl; simp only [Act.put, List.setIfInBounds_toArray, List.set_cons_zero, List.set_cons_succ])
                | (apply SeqP.call; rfl; rfl; (intro w2 hw; have hw := hTP _ hw; ((have q1 := hw.cell 1; have q2 := hw.cell 2; have q3 := hw.cell 3; simp at q1 q2 q3)); go_simp; exact ⟨rfl, rfl⟩); (intro w2 hw; have hw := hTP _ hw; ((have q1 := hw.cell 1; have q2 := hw.cell 2; have q3 := hw.cell 3; simp at q1 q2 q3)); (first | fail)); simp only [Act.put, List.setIfInBounds_toArray, List.set_cons_zero, List.set_cons_succ])
                | (apply SeqP.pure; rfl; (intro w2 hw; have hw := hTP _ hw; ((have q1 := hw.cell 1; have q2 := hw.cell 2; have q3 := hw.cell 3; simp at q1 q2 q3)); go_simp; with_reducible rfl); simp only [Act.put, List.setIfInBounds_toArray, List.set_cons_zero, List.set_cons_succ])
                | (apply SeqP.split; rfl; rfl; all_goals (intro hc; simp only [hc]; try simp only [beq_iff_eq, decide_eq_true_eq, beq_eq_false_iff_ne, decide_eq_false_iff_not, bne_iff_ne, ne_eq, Bool.not_eq_true', Bool.not_eq_false', Int.not_le, Int.not_lt, bne_eq_false_iff_eq] at hc)))
              apply SeqP.eff
              · rfl
              intro KE hKE
              go_wp2_with fail
              have hID := hT2.pure (Below.refl _ _).drew
              refine (lmay_any b m nn' gr G' s ep now hs _ hID.2.2.1).mono ?_
              rintro e y3 ⟨rfl, hb3⟩
              have hT3 := hID.pure hb3
              refine hKE _ _ (hTP' _ hT3.2.2.2.2.1) ?_
              rw [alike_may HG.out h0' AA.out.2.2.1]
              apply SeqP.eff
              · rfl
              intro KE2 hKE2
              go_wp2_with fail
              refine (rmay_any r gr' E' U' s ep now _ hT3.2.2.2.1).mono ?_
              rintro e y4 ⟨rfl, hb4⟩
              have hT4 := hT3.pure hb4
              refine hKE2 _ _ (hTP' _ hT4.2.2.2.2.1) ?_
              generalize rmayL gr' E' U' s ep now = v3
              go_wp2_with (first
                | (apply SeqP.skip; rfl; simp only [Act.put, List.setIfInBounds_toArray, List.set_cons_zero, List.set_cons_succ])
                | (apply SeqP.call; rfl; rfl; (intro w2 hw; have hw := hTP _ hw; (skip); go_simp; exact ⟨rfl, rfl⟩); (intro w2 hw; have hw := hTP _ hw; (skip); (first | fail)); simp only [Act.put, List.setIfInBounds_toArray, List.set_cons_zero, List.set_cons_succ])
                | (apply SeqP.pure; rfl; (intro w2 hw; have hw := hTP _ hw; (skip); go_simp; with_reducible rfl); simp only [Act.put, List.setIfInBounds_toArray, List.set_cons_zero, List.set_cons_succ])
                | (apply SeqP.split; rfl; rfl; all_goals (intro hc; simp only [hc]; try simp only [beq_iff_eq, decide_eq_true_eq, beq_eq_false_iff_ne, decide_eq_false_iff_not, bne_iff_ne, ne_eq, Bool.not_eq_true', Bool.not_eq_false', Int.not_le, Int.not_lt, bne_eq_false_iff_eq] at hc)))
              apply SeqP.nil
              refine hKP _ _ (hTP' _ hT4.2.2.2.2.1) ?_
              clear hKP hTP hTP' hKE hKE2 hID hT2 hT3 hb3 hb4
              go_wp2_with fail
              go_roundg (n - (j + 1))
              case measure => have hkk := AA.out.1; omega
              case rel => exact ⟨j + 1, rfl, by omega, by go_num, hT4.1, hT4.2.1, gr, gr', G', E', U', nn', hnn', AA.out.2.2.1, hT4.2.2.1, hT4.2.2.2.1, HG.out⟩
        · go_wp2_with fail
          refine (lives_walk _).mono ?_
          rintro e wz ⟨rfl, hbz⟩
          go_wp2_with fail
          go_ret
          exact ⟨rfl, below_below hwr hbz hwr.size⟩
end Go.Proofs.Ytigkfekidmjpbaa
