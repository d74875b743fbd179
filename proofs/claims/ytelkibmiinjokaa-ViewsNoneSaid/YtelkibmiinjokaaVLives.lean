/-
  The chapter's items: the walk over 'lives'; are items more than is looked at.
-/
import Derived.Test.YtelkibmiinjokaaVTake
import Derived.Test.YtelkibmiinjokaaTotEq
set_option linter.unusedSimpArgs false
set_option linter.unusedVariables false
set_option maxRecDepth 100000
namespace Go.Proofs.Ytelkibmiinjokaa
open Go Go.RowKit Go.Sq Go.Wd Go.Arch

set_option maxHeartbeats 2000000 in
theorem beyond_any (l : List Itm) (A : Option Addr) (c : Nat) (w : World) (hi : Items w w.heap.size A l) (hc : l.length ≤ c) (hc2 : c ≤ 9223372036854775807) :
    Calls Try.prog 29 #[.slice A l.length c] w fun e w' => ∃ b : Bool, e = .returned (.bool b) ∧ Below w.heap.size w w' ∧ (b = false → l.length ≤ 200) := by
  have hw := Below.refl w.heap.size w
  have HE := Lib.hid hi
  clear hi
  by_cases h0 : 200 < l.length
  · go_enter Try.func29, Try.ntmps29
    go_wp2_with fail
    go_ret
    exact ⟨true, rfl, hw, fun h => by cases h⟩
  have h1 : l.length ≤ 200 := by omega
  go_enter Try.func29, Try.ntmps29
  go_wp2_with fail
  go_loopg [3] l.length (fun q i wr => ∃ (j : Nat), q = l.length - j ∧ j ≤ l.length ∧ i = .int .i64 j ∧ Below w.heap.size w wr)
  case atStart => exact ⟨0, rfl, by omega, rfl, hw⟩
  case round =>
    obtain ⟨j, hq, hj, rfl, hB⟩ := hrel
    have AA : Aside (gk = l.length - j) := hq
    clear hq
    by_cases hlt : j < l.length
    · obtain ⟨b1, o1, x, rfl, hx, FA, HV⟩ := HE.out.at_ hlt
      obtain ⟨q0, q1, q2, q3, q4, q5, q6, q7, q8, q9⟩ := FA _ hB
      clear FA HV hx q0 q1 q2 q3 q4 q5 q6 q7 q8
      by_cases h5 : 5 < (x.sl.2.1 : Int)
      · go_wp2_with fail
        go_ret
        exact ⟨true, rfl, hB, fun h => by cases h⟩
      · go_wp2_with fail
        go_roundg (l.length - (j + 1))
        case measure => have hkk := AA.out; omega
        case rel => exact ⟨j + 1, rfl, by omega, by go_num, hB⟩
    · obtain rfl : j = l.length := by omega
      go_wp2_with fail
      go_ret
      exact ⟨false, rfl, hB, fun _ => h1⟩

/-- The chapter's items. -/
def li (a b : Nat) : List Itm := [⟨0, 0, 0, 0, 0, 0, 0, 1, 1, (some ⟨a, 0, none⟩, 1, 1), [(1, 1)]⟩, ⟨0, 1, 0, 0, 0, 0, 0, 1, 2, (some ⟨b, 0, none⟩, 1, 1), [(2, 5)]⟩, ⟨1, 0, 0, 0, 0, 0, 0, 3, 0, (none, 0, 0), []⟩]
def T2 : Tot := ⟨⟨1, false, 5, 2⟩, st0, st0, st0, 2, 0, 0, 5⟩
def T3 : Tot := ⟨⟨1, false, 5, 2⟩, st0, st0, st0, 2, 0, 1, 5⟩
theorem li_2 (a b : Nat) : atT ((li a b).take 2) = some T2 := by
  simp [li, atT, atFrom, vstepT, stepN, Tot.get, Tot.put, Tot.code, foldEv, applyS, mayS, comesS, leastS, tot0, st0, T2, wrap64]
theorem li_3 (a b : Nat) : atT ((li a b).take 3) = some T3 := by
  simp [li, atT, atFrom, vstepT, stepN, Tot.get, Tot.put, Tot.code, foldEv, applyS, mayS, comesS, leastS, tot0, st0, T3, wrap64]

/-- The chapter's items in memory. -/
def LI (w : World) (a b g : Nat) : Prop := Blk w a 82 [.int .i64 1, .int .i64 1] ∧ Blk w b 82 [.int .i64 2, .int .i64 5] ∧ Blk w g 69 ((li a b).flatMap itv)
theorem LI.keep {w w' : World} {a b g : Nat} (h : LI w a b g) (hb : Below w.heap.size w w') : LI w' a b g := ⟨h.1.keep hb, h.2.1.keep hb, h.2.2.keep hb⟩
theorem LI.far {w w' : World} {a b g k : Nat} (h : LI w a b g) (hk : a ≠ k ∧ b ≠ k ∧ g ≠ k) (hf : ∀ i T l, i ≠ k → Blk w i T l → Blk w' i T l) : LI w' a b g := ⟨hf _ _ _ hk.1 h.1, hf _ _ _ hk.2.1 h.2.1, hf _ _ _ hk.2.2 h.2.2⟩
theorem blk_step {w1 w2 : World} {o : Obj} {i : Nat} {T : TypeId} {l : List Value} (h : Blk w1 i T l) (hk : ∀ k T l, k ≠ w1.heap.size → Blk (w1.alloc o) k T l → Blk w2 k T l) : Blk w2 i T l := hk _ _ _ (by have := h.lt; omega) (h.alloc _)
theorem LI.step {w1 w2 : World} {o : Obj} {a b g : Nat} (h : LI w1 a b g) (hk : ∀ k T l, k ≠ w1.heap.size → Blk (w1.alloc o) k T l → Blk w2 k T l) : LI w2 a b g := ⟨blk_step h.1 hk, blk_step h.2.1 hk, blk_step h.2.2 hk⟩
theorem LI.items {w : World} {a b g : Nat} (h : LI w a b g) : Items w w.heap.size (some ⟨g, 0, none⟩) (li a b) := by
  obtain ⟨ha, hb, hg⟩ := h
  refine ⟨?_, fun _ => ⟨g, 0, rfl, hg.lt, ?_⟩⟩
  · intro x hx
    simp only [li, List.mem_cons, List.not_mem_nil, or_false] at hx
    rcases hx with rfl | rfl | rfl
    · refine ⟨rfl, by simp, by simp, fun _ => ⟨a, 0, rfl, ha.lt, fun i e he => ?_⟩⟩
      have hi := (List.getElem?_eq_some_iff.1 he).1
      obtain rfl : i = 0 := by simp at hi; omega
      cases he
      exact ⟨ha.cell 0, ha.cell 1⟩
    · refine ⟨rfl, by simp, by simp, fun _ => ⟨b, 0, rfl, hb.lt, fun i e he => ?_⟩⟩
      have hi := (List.getElem?_eq_some_iff.1 he).1
      obtain rfl : i = 0 := by simp at hi; omega
      cases he
      exact ⟨hb.cell 0, hb.cell 1⟩
    · exact ⟨rfl, by simp, by simp, fun h => absurd h (by simp)⟩
  · intro i x hx
    have hi := (List.getElem?_eq_some_iff.1 hx).1
    obtain rfl | rfl | rfl : i = 0 ∨ i = 1 ∨ i = 2 := by simp [li] at hi; omega
    all_goals
      cases hx
      exact ⟨hg.cell _, hg.cell _, hg.cell _, hg.cell _, hg.cell _, hg.cell _, hg.cell _, hg.cell _, hg.cell _, hg.cell _⟩
theorem at_li (a b g : Nat) (k : Int) (w : World) (h : LI w a b g) (o : Option Tot) (ho : atK (li a b) k = o) :
    Calls Try.prog 31 #[.slice (some ⟨g, 0, none⟩) 3 3, .int .i64 k] w fun e w' => e = .returned (.tuple #[.agg (totv (totR o).1).toArray, .int .i64 (totR o).2]) ∧ Below w.heap.size w w' ∧ LI w' a b g := by
  subst ho
  exact (at_any (li a b) _ 3 k w h.items (Nat.le_refl _) (by omega)).mono fun e w' hh => ⟨hh.1, hh.2, h.keep hh.2⟩
theorem atK_2 (a b : Nat) : atK (li a b) 2 = some T2 := by unfold atK; rw [if_neg (by simp [li])]; exact li_2 a b
theorem atK_3 (a b : Nat) : atK (li a b) 3 = some T3 := by unfold atK; rw [if_neg (by simp [li])]; exact li_3 a b
theorem atK_4 (a b : Nat) : atK (li a b) 4 = none := by unfold atK; rw [if_pos (by simp [li])]

theorem take_2 (a b : Nat) : takeT tot0 0 ((li a b).take 2) = (T2, 2, 0) := by
  have h : atFrom tot0 (((li a b).take 2).drop 0) = some T2 := li_2 a b
  unfold takeT
  rw [h]
  rfl

set_option maxHeartbeats 4000000 in
theorem lives_any (w : World) : Calls Try.prog 30 #[] w fun e w' => e = .returned (.bool true) ∧ Below w.heap.size w w' := by
  have hL : LI (((w.alloc (.cells #[.int .i64 1, .int .i64 1] 82)).alloc (.cells #[.int .i64 2, .int .i64 5] 82)).alloc (.cells ((li w.heap.size (w.heap.size + 1)).flatMap itv).toArray 69)) w.heap.size (w.heap.size + 1) (w.heap.size + 1 + 1) :=
    ⟨((Blk.new w _ [_, _]).alloc _).alloc _, (Blk.newAt _ _ [_, _] (by simp)).alloc _, Blk.newAt _ _ _ (by simp)⟩
  have hw : Below w.heap.size w (((w.alloc (.cells #[.int .i64 1, .int .i64 1] 82)).alloc (.cells #[.int .i64 2, .int .i64 5] 82)).alloc (.cells ((li w.heap.size (w.heap.size + 1)).flatMap itv).toArray 69)) := by
    have hw := Below.refl w.heap.size w
    (repeat (first | with_reducible apply Below.drew | with_reducible refine Below.setCell ?_ (by first | exact Nat.le_refl _ | (simp; done) | (simp; omega) | omega) _ | with_reducible refine Below.alloc ?_ (by first | exact Nat.le_refl _ | (simp; done) | (simp; omega) | omega) _ | with_reducible exact Below.refl _ _ | with_reducible assumption))
  have HL := Lib.hid (And.intro hL hw)
  clear hL hw
  go_enter Try.func30, Try.ntmps30
  go_wp2_with fail
  refine (at_li _ _ _ _ _ HL.out.1 _ (atK_2 _ _)).mono ?_
  rintro e w1 ⟨rfl, hb, hL⟩
  have hw1 := HL.out.2.trans (hb.mono (by simp; omega))
  clear hb HL
  simp only [totR]
  have hz1 := hw1.size
  go_wp2_with ((with_reducible refine at_list ?_); (refine wpList_store_blk rfl 51 _ _ rfl _ (totv _) rfl rfl _ _ (Blk.new _ _ _) tot_info rfl (totv_one _) ?_; intro w2 B2 hb2 hk2))
  have hL2 := hL.step hk2
  have hw2 := (hw1.alloc hz1 _).trans (hb2 _ hz1)
  clear hL hk2 hb2 hw1
  refine (at_li _ _ _ _ _ hL2 _ (atK_3 _ _)).mono ?_
  rintro e w3 ⟨rfl, hb, hL3⟩
  have hw3 := below_trans hw2 hb hw2.size
  have B2 := B2.keep hb
  clear hb hL2 hw2
  simp only [totR]
  have hz3 := hw3.size
  go_wp2_with ((with_reducible refine at_list ?_); (refine wpList_store_blk rfl 51 _ _ rfl _ (totv _) rfl rfl _ _ (Blk.new _ _ _) tot_info rfl (totv_one _) ?_; intro w4 B4 hb4 hk4))
  have hL4 := hL3.step hk4
  have hw4 := (hw3.alloc hz3 _).trans (hb4 _ hz3)
  have B2 := blk_step B2 hk4
  clear hL3 hk4 hb4 hw3
  refine (at_li _ _ _ _ _ hL4 _ (atK_4 _ _)).mono ?_
  rintro e w5 ⟨rfl, hb, hL5⟩
  have hw5 := below_trans hw4 hb hw4.size
  have B2 := B2.keep hb
  have B4 := B4.keep hb
  clear hb hL4 hw4
  simp only [totR]
  have hz5 := hw5.size
  go_wp2_with ((with_reducible refine at_list ?_); (refine wpList_store_blk rfl 51 _ _ rfl _ (totv _) rfl rfl _ _ (Blk.new _ _ _) tot_info rfl (totv_one _) ?_; intro w6 B6 hb6 hk6))
  have hL6 := hL5.step hk6
  have hw6 := (hw5.alloc hz5 _).trans (hb6 _ hz5)
  have B2 := blk_step B2 hk6
  have B4 := blk_step B4 hk6
  clear hL5 hk6 hb6 hw5 B6
  refine (new_view _).mono ?_
  rintro e w7 ⟨rfl, hw7e⟩
  have hb7 : Below w6.heap.size w6 w7 := by rw [hw7e]; exact (Below.refl _ _).alloc (Nat.le_refl _) _
  have BV : Blk w7 w6.heap.size 62 (vwv tot0 0) := by rw [hw7e]; exact Blk.new _ _ _
  have hw7 := below_trans hw6 hb7 hw6.size
  have B2 := B2.keep hb7
  have B4 := B4.keep hb7
  have hL7 := hL6.keep hb7
  have hz6 := hw6.size
  clear hb7 hw7e hL6 hw6
  go_wp2_with fail
  refine (take_any ((li w.heap.size (w.heap.size + 1)).take 2) tot0 0 _ _ 3 _ (hL7.items.take 2) (Nat.zero_le _) (by simp [li]) (by omega) BV).mono ?_
  rw [take_2]
  rintro e w8 ⟨rfl, BV8, hO⟩
  have hw8 := hw7.trans (hO.1 _ hz6)
  have B2 := hO.2.1 _ _ _ (by have := B2.lt; have := hL7.1.lt; intro h; rw [h] at B2; have e := B2.symm.trans BV; simp [vwv, totv] at e) B2
  have B4 := hO.2.1 _ _ _ (by intro h; rw [h] at B4; have e := B4.symm.trans BV; simp [vwv, totv] at e) B4
  clear hO hL7 hw7 BV
  dsimp only
  go_wp2_with fail
  refine (totals_any T2 _ _ _ BV8).mono ?_
  rintro e w9 ⟨rfl, hb⟩
  have hw9 := below_trans hw8 hb hw8.size
  have B2 := B2.keep hb
  have B4 := B4.keep hb
  have BV9 := BV8.keep hb
  clear hb BV8 hw8
  have hz9 := hw9.size
  go_wp2_with ((with_reducible refine at_list ?_); first | ((refine wpList_store_blk rfl 51 _ _ rfl _ (totv _) rfl rfl _ _ (Blk.new _ _ _) tot_info rfl (totv_one _) ?_; intro w10 B10 hb10 hk10); have C2 := blk_step B2 hk10; have C4 := blk_step B4 hk10; have CV := blk_step BV9 hk10; have hw10 := (hw9.alloc hz9 _).trans (hb10 _ hz9); clear B2 B4 BV9 hb10 hk10 hw9; have p3 := C2.cell 3; have p16 := C2.cell 16; have p19 := C2.cell 19; have s18 := C4.cell 18; have s19 := C4.cell 19; simp [totv, T2, T3, st0] at p3 p16 p19 s18 s19; have l2 := C2.lt; have l4 := C4.lt; have l10 := B10.lt) | refine wpList_load_blk_g 51 _ rfl rfl _ rfl _ _ _ (B10) Try.underlying51 rfl tot_info ?_ | refine wpList_load_blk_g 51 _ rfl rfl _ rfl _ _ _ (C2) Try.underlying51 rfl tot_info ?_ | refine wpList_agg_g rfl rfl Try.eqGuardType51 rfl rfl (eql_tot _ T2) ?_)
  refine (take_short T2 2 _ _ 1 3 _ CV (by omega)).mono ?_
  rintro e w11 ⟨rfl, hb⟩
  have hw11 := below_trans hw10 hb hw10.size
  clear hb
  go_wp2_with fail
  go_ret
  exact ⟨rfl, hw11⟩
end Go.Proofs.Ytelkibmiinjokaa
