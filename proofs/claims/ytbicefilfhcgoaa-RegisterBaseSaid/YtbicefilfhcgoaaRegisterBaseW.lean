/-
  The walk over the statement RegisterBase.
-/
import Derived.Test.YtbicefilfhcgoaaRegLives
import Derived.Test.YtbicefilfhcgoaaRegBehind
import Derived.Test.YtbicefilfhcgoaaRegBase
set_option linter.unusedSimpArgs false
set_option linter.unusedVariables false
set_option maxRecDepth 100000
namespace Go.Proofs.Ytbicefilfhcgoaa
open Go Go.RowKit Go.Sq Go.Wd Go.Arch

theorem abs_list {P : Program} {ops : Array Oper} {Q : Exit → Act → World → Prop} {l : List Oper} {a : Act} {w : World} (S : World → Prop) (hS : S w) (h : ∀ w', S w' → wpList P ops Q l a w') : wpList P ops Q l a w := h w hS
/-- A row whose entry j is overwritten. -/
theorem own_zero {w : World} {B g n c : Nat} {xs : List Value} (h : w.ownsRow B 44 6 (.slice (some ⟨g, 0, none⟩) n c) n xs) (j : Nat) (z : Value) :
    w.grownBy ((((((w.setCell ⟨g, j * 6, none⟩ z).setCell ⟨g, j * 6 + 1, none⟩ z).setCell ⟨g, j * 6 + 2, none⟩ z).setCell ⟨g, j * 6 + 3, none⟩ z).setCell ⟨g, j * 6 + 4, none⟩ z).setCell ⟨g, j * 6 + 5, none⟩ z) (some g) ∧
    ∃ ys, ((((((w.setCell ⟨g, j * 6, none⟩ z).setCell ⟨g, j * 6 + 1, none⟩ z).setCell ⟨g, j * 6 + 2, none⟩ z).setCell ⟨g, j * 6 + 3, none⟩ z).setCell ⟨g, j * 6 + 4, none⟩ z).setCell ⟨g, j * 6 + 5, none⟩ z).ownsRow B 44 6 (.slice (some ⟨g, 0, none⟩) n c) n ys := by
  refine ⟨by (repeat (first | with_reducible apply only_drew | with_reducible refine only_setCell ?_ (by first | exact Or.inl rfl | (right; simp; done) | (right; simp; omega) | (right; omega)) _ | with_reducible refine only_alloc ?_ _ | with_reducible exact World.grownBy.refl _ _ | with_reducible assumption)), ?_⟩
  exact ⟨_, (World.ownsRow.stored (World.ownsRow.stored (World.ownsRow.stored (World.ownsRow.stored (World.ownsRow.stored (World.ownsRow.stored h (j * 6) z).1 (j * 6 + 1) z).1 (j * 6 + 2) z).1 (j * 6 + 3) z).1 (j * 6 + 4) z).1 (j * 6 + 5) z).1⟩
theorem own_cells {w : World} {B g n c : Nat} {xs : List Value} (h : w.ownsRow B 44 6 (.slice (some ⟨g, 0, none⟩) n c) n xs) {j : Nat} (hj : j < n) :
    ∃ v0 v1 v2 v3 v4 v5, w.cell? ⟨g, j * 6, none⟩ = some v0 ∧ w.cell? ⟨g, j * 6 + 1, none⟩ = some v1 ∧ w.cell? ⟨g, j * 6 + 2, none⟩ = some v2 ∧ w.cell? ⟨g, j * 6 + 3, none⟩ = some v3 ∧ w.cell? ⟨g, j * 6 + 4, none⟩ = some v4 ∧ w.cell? ⟨g, j * 6 + 5, none⟩ = some v5 ∧ ∀ k, w.frozen? ⟨g, k, none⟩ = false := by
  have hl : xs.length = n * 6 := h.1
  have key : ∀ k, k < 6 → w.cell? ⟨g, j * 6 + k, none⟩ = some (xs[j * 6 + k]?.getD undef) := fun k hk => by
    rw [h.cellAt (j * 6 + k) (by omega), List.getElem?_eq_getElem (by omega)]
    rfl
  exact ⟨_, _, _, _, _, _, key 0 (by omega), key 1 (by omega), key 2 (by omega), key 3 (by omega), key 4 (by omega), key 5 (by omega), fun k => h.frozenAt k⟩

theorem LogAt.apart2 {w w' : World} {k : Nat} {sl : SlcE} {l : List Ent} (h : LogAt w w.heap.size sl l) (hg : w.grownBy w' (some k)) (hne : l ≠ [] → ∀ b o, sl.1 = some ⟨b, o, none⟩ → b ≠ k) : LogAt w' w'.heap.size sl l := by
  cases l with
  | nil => exact ⟨h.1, h.2.1, h.2.2.1, Ents.nil⟩
  | cons a l => exact h.apart (Nat.le_refl _) hg (hne (by simp))
theorem Row.range {w : World} {B : Nat} {A : Option Addr} {n c : Nat} {l : List Ent} (h : Row w B (.slice A n c) l) (g : Nat) (hg : A = some ⟨g, 0, none⟩) : B ≤ g ∧ g < w.heap.size := by
  subst hg
  exact h.lt g rfl
/-- What the loop keeps: the record of a register, what it led to, a clone. -/
def BaseI (w : World) (B : Nat) (s : Int) (r : RegS) (sl es sa sc : SlcE) (gr gx ga gc : Nat) (w' : World) : Prop :=
  Below w.heap.size w w' ∧ (Blk w' gr 24 (rgv r sl) ∧ Blk w' gx 27 (rcv ⟨4, s, r.prom, r.view, 0, r.com, es, r.log, (none, 0, 0)⟩) ∧ Blk w' ga 24 (rgv r sa) ∧ Blk w' gc 24 (rgv r sc)) ∧
  (LogAt w' B sl r.log ∧ B ≤ w'.heap.size ∧ LogAt w' w'.heap.size sa r.log) ∧ (∃ xs, w'.ownsRow B 44 6 (.slice es.1 es.2.1 es.2.2) r.log.length xs) ∧ (∃ xs, w'.ownsRow B 44 6 (.slice sc.1 sc.2.1 sc.2.2) r.log.length xs)
/-- Where all of these lie. -/
def BaseN (r : RegS) (B : Nat) (es sa sc : SlcE) (gr gx ga gc : Nat) : Prop :=
  (gr < B ∧ B ≤ gx) ∧ (∀ g, es.1 = some ⟨g, 0, none⟩ → g < gx ∧ B ≤ g) ∧ gx < ga ∧ (∀ g, sc.1 = some ⟨g, 0, none⟩ → ga < g ∧ g < gc) ∧ ga < gc ∧ (r.log ≠ [] → ∀ b o, sa.1 = some ⟨b, o, none⟩ → gx < b ∧ b < ga)
theorem BaseI.step {w w' w2 : World} {B g : Nat} {s : Int} {r : RegS} {sl es sa sc : SlcE} {gr gx ga gc : Nat} (hw : w.heap.size ≤ B) (h : BaseI w B s r sl es sa sc gr gx ga gc w') (hN : BaseN r B es sa sc gr gx ga gc)
    (hg : w'.grownBy w2 (some g)) (hgg : es.1 = some ⟨g, 0, none⟩ ∨ sc.1 = some ⟨g, 0, none⟩) (he : ∃ xs, w2.ownsRow B 44 6 (.slice es.1 es.2.1 es.2.2) r.log.length xs) (hc : ∃ xs, w2.ownsRow B 44 6 (.slice sc.1 sc.2.1 sc.2.2) r.log.length xs) :
    BaseI w B s r sl es sa sc gr gx ga gc w2 := by
  obtain ⟨h1, ⟨b1, b2, b3, b4⟩, ⟨l1, l2, l3⟩, _, _⟩ := h
  obtain ⟨⟨n1, n7⟩, n2, n3, n4, n5, n6⟩ := hN
  have hb : B ≤ g ∧ g ≠ gr ∧ g ≠ gx ∧ g ≠ ga ∧ g ≠ gc ∧ (r.log ≠ [] → ∀ b o, sa.1 = some ⟨b, o, none⟩ → b ≠ g) := by
    rcases hgg with e | e
    · have := n2 g e
      exact ⟨by omega, by omega, by omega, by omega, by omega, fun h0 b o hb => by have := n6 h0 b o hb; omega⟩
    · have := n4 g e
      exact ⟨by omega, by omega, by omega, by omega, by omega, fun h0 b o hb => by have := n6 h0 b o hb; omega⟩
  obtain ⟨k0, k1, k2, k3, k4, k5⟩ := hb
  have key : ∀ m, g ≠ m → some m ≠ some g := fun m h e => h (Option.some.inj e).symm
  exact ⟨h1.trans (below_grown hg (by omega) h1.size), ⟨b1.grown hg (key _ k1), b2.grown hg (key _ k2), b3.grown hg (key _ k3), b4.grown hg (key _ k4)⟩, ⟨l1.below (below_grown hg k0 l2), Nat.le_trans l2 hg.size, l3.apart2 hg k5⟩, he, hc⟩

set_option maxHeartbeats 8000000 in
theorem registerBase_walk (l : List RecV) (A : Option Addr) (c : Nat) (st : Int) (w : World) (hl : Recs w w.heap.size A l) (hn : l.length ≤ 9223372036854775807) :
    Calls Try.prog 8 #[.slice A l.length c, .int .i64 st] w fun e w' => e = .returned (.bool true) ∧ Below w.heap.size w w' := by
  have HE := Lib.hid hl
  clear hl
  go_enter Try.func8, Try.ntmps8
  go_wp2_with fail
  refine (beyond15_any l A c w HE.out hn).mono ?_
  rintro e w1 ⟨rfl, rfl⟩
  cases hbe : beyondR l with
  | true =>
    clear hbe
    go_wp2_with fail
    refine (lives15_any _).mono ?_
    rintro e w2 ⟨rfl, hb⟩
    go_wp2_with fail
    go_ret
    exact ⟨rfl, hb⟩
  | false =>
    have HN2 := Lib.hid (beyondR_no hbe).2
    clear hbe
    go_wp2_with fail
    refine (behind15_any l A c w1 HE.out hn HN2.out).mono ?_
    rintro e w2 ⟨sl, rfl, hL, hb⟩
    have hm := behind_may l l.length
    rw [List.take_length] at hm
    generalize behindR l = r at hL hm ⊢
    have r64 := ((okLog_iff _ _).1 ((mayR_iff r).1 hm).2.1).1
    have HM := Lib.hid hm
    clear hm
    have hw2 := below_trans (Below.refl w1.heap.size w1) hb (Nat.le_refl _)
    have hz2 := hw2.size
    clear hb
    go_wp2_with ((with_reducible refine at_list ?_); first | (refine wpList_store_own rfl 24 _ _ rfl _ (rgv r sl) rfl rfl _ _ (Blk.new w2 24 (rgv reg0 (none, 0, 0))) rg_info rfl (rgv_one _ _) ?_; intro w3 B3 g3) | refine wpList_load_blk rfl 24 _ rfl _ rfl _ _ _ (B3) Try.underlying24 rfl rg_info ?_)
    have hb3 := below_new g3
    have hw3 := below_trans hw2 hb3 hz2
    have L3 := hL.keep hb3
    have hz3 := hw3.size
    have l3 := B3.lt
    clear hL g3 hb3 hw2
    refine (base_any st r sl w3 L3 (by omega)).mono ?_
    rintro e w4 ⟨es, rfl, hE, hb⟩
    have hw4 := below_trans hw3 hb hz3
    have hEw := fun g hg => Row.range hE g hg
    have B4 := B3.keep hb
    have L4 := L3.below hb
    have hz4 := hw4.size
    have hz34 := hb.size
    clear hb
    go_wp2_with ((with_reducible refine at_list ?_); first | (refine wpList_store_own rfl 27 _ _ rfl _ (rcv ⟨4, st, r.prom, r.view, 0, r.com, es, r.log, (none, 0, 0)⟩) rfl rfl _ _ (Blk.new w4 27 (rcv rec0)) rc_info rfl (rcv_one _) ?_; intro w5 C5 g5) | refine wpList_load_blk rfl 27 _ rfl _ rfl _ _ _ (C5) Try.underlying27 rfl rc_info ?_)
    have hb5 := below_new g5
    have hw5 := below_trans hw4 hb5 hz4
    have B5 := B4.keep hb5
    have L5 := L4.below (hb5.mono hz34)
    have E5 := Row.keep hE hb5
    have hz5 := hw5.size
    have hz45 := hb5.size
    have lC5 := C5.lt
    clear hb5 g5 hw4 B4
    refine (apply_own (none, 0, 0) (⟨4, st, r.prom, r.view, 0, r.com, es, r.log, (none, 0, 0)⟩ : RecV) w5 (base_leads HM.out st) LogAt.nil E5.logAt (by show r.log.length ≤ 1000; omega)).mono ?_
    rintro e w6 ⟨sa, rfl, ⟨hA, hAw⟩, hb⟩
    have hw6 := below_trans hw5 hb hz5
    have B6 := B5.keep hb
    have C6 := C5.keep hb
    have L6 := L5.below (hb.mono (by omega))
    have E6 := Row.keep E5 hb
    have hz6 := hw6.size
    have hz56 := hb.size
    have hAw2 : r.log ≠ [] → ∀ b o, sa.1 = some ⟨b, o, none⟩ → w4.heap.size < b ∧ b < w6.heap.size := fun h0 b o hb => by
      have h1 := hAw b o hb
      obtain ⟨b2, off, ha, h2, _⟩ := hA.2.2.2 (List.length_pos_iff.2 h0)
      rw [hb] at ha
      cases ha
      omega
    clear hAw
    clear hb hw5 B5 C5 L5 E5
    go_wp2_with ((with_reducible refine at_list ?_); first | (refine wpList_store_own rfl 24 _ _ rfl _ (rgv r sa) rfl rfl _ _ (Blk.new w6 24 (rgv reg0 (none, 0, 0))) rg_info rfl (rgv_one _ _) ?_; intro w7 D7 g7) | refine wpList_load_blk rfl 24 _ rfl _ rfl _ _ _ (B6.keep (below_new g7)) Try.underlying24 rfl rg_info ?_)
    have hb7 := below_new g7
    have hw7 := below_trans hw6 hb7 hz6
    have B7 := B6.keep hb7
    have C7 := C6.keep hb7
    have L7 := L6.below (hb7.mono (by omega))
    have E7 := Row.keep E6 hb7
    have A7 := hA.keep hb7
    have hz7 := hw7.size
    have hz67 := hb7.size
    have lD7 := D7.lt
    clear hb7 g7 hw6 B6 C6 L6 E6 hA
    refine (regclone_any r sl w7 (L7.more (by omega)) (by omega)).mono ?_
    rintro e w8 ⟨sc, rfl, hC, hb⟩
    have hw8 := below_trans hw7 hb hz7
    have B8 := B7.keep hb
    have C8 := C7.keep hb
    have D8 := D7.keep hb
    have L8 := L7.below (hb.mono (by omega))
    have E8 := Row.keep E7 hb
    have A8 := A7.keep hb
    have hz8 := hw8.size
    have hz78 := hb.size
    clear hb hw7 B7 C7 D7 L7 E7 A7
    have hsn : sc.2.1 = r.log.length := by
      obtain ⟨s2, he, hl2⟩ := hC.log
      have e2 : (Value.slice sc.1 sc.2.1 sc.2.2) = .slice s2.1 s2.2.1 s2.2.2 := he
      injection e2 with _ e3 _
      rw [e3]; exact hl2.1
    have hen : es.2.1 = r.log.length := E8.logAt.1
    have hA9 := A8
    have hN : BaseN r w3.heap.size es sa sc w2.heap.size w4.heap.size w6.heap.size w8.heap.size := by
      refine ⟨⟨l3, hz34⟩, fun g hg => ?_, by omega, fun g hg => ?_, by omega, fun hb b o hb2 => ?_⟩
      · have := hEw g hg; omega
      · have := Row.range hC g hg; omega
      · exact hAw2 hb b o hb2
    go_wp2_with ((with_reducible refine at_list ?_); first | (refine wpList_store_own rfl 24 _ _ rfl _ (rgv r sc) rfl rfl _ _ (Blk.new w8 24 (rgv reg0 (none, 0, 0))) rg_info rfl (rgv_one _ _) ?_; intro w9 F9 g9))
    have hb9 := below_new g9
    have hI : BaseI w1 w3.heap.size st r sl es sa sc w2.heap.size w4.heap.size w6.heap.size w8.heap.size w9 := 
      ⟨below_trans hw8 hb9 hz8, ⟨B8.keep hb9, C8.keep hb9, D8.keep hb9, F9⟩, ⟨L8.below (hb9.mono (by omega)), by have := hb9.size; omega, A8.keep hb9⟩, ⟨_, Row.keep E8 hb9⟩, ⟨_, (Row.keep hC hb9).base (by omega)⟩⟩
    have hz3' := hz3
    clear hb9 g9 F9 B8 C8 D8 L8 E8 A8 hA9 hC hw8 hz78 hz8 hw3 B3 hAw2 hEw L3 l3 hE lC5 lD7 hz34 hz45 hz56 hz67 hz7 hz6 hz5 hz4 hz2 hz3
    generalize w2.heap.size = gr at hI hN ⊢
    generalize w3.heap.size = Bq at hI hN hz3'
    generalize w4.heap.size = gx at hI hN ⊢
    generalize w6.heap.size = ga at hI hN ⊢
    generalize w8.heap.size = gc at hI hN ⊢
    obtain ⟨Ae, ne, ce⟩ := es
    obtain ⟨As, ns, cs⟩ := sc
    obtain rfl : ne = r.log.length := hen
    obtain rfl : ns = r.log.length := hsn
    have HI := Lib.hid hI
    have HNN := Lib.hid hN
    clear hI hN
    go_loopg [10] r.log.length (fun q i wr => ∃ (j : Nat), q = r.log.length - j ∧ j ≤ r.log.length ∧ i = .int .i64 j ∧ BaseI w1 Bq st r sl (Ae, r.log.length, ce) sa (As, r.log.length, cs) gr gx ga gc wr)
    case atStart => exact ⟨0, rfl, by omega, rfl, HI.out⟩
    case round =>
      clear HI
      obtain ⟨j, hq, hj, rfl, hI⟩ := hrel
      have AA : Aside (gk = r.log.length - j) := hq
      clear hq
      have HI := Lib.hid hI
      clear hI
      obtain ⟨b1, b2, b3, b4⟩ := HI.out.2.1
      have k2 := b4.cell 2
      have x6 := b2.cell 6
      simp [rgv, rcv] at k2 x6
      by_cases hlt : j < r.log.length
      · obtain ⟨xs, hE⟩ := HI.out.2.2.2.1
        obtain ⟨ys, hC⟩ := HI.out.2.2.2.2
        obtain ⟨ge, ce', he1, he2, he3⟩ := World.ownsRow.form hE (by omega)
        obtain ⟨gs, cs', hs1, hs2, hs3⟩ := World.ownsRow.form hC (by omega)
        cases he1
        cases hs1
        obtain ⟨v0, v1, v2, v3, v4, v5, c0, c1, c2, c3, c4, c5, fr⟩ := own_cells hC hlt
        have hne : ge < gx ∧ gx < ga ∧ ga < gs := by
          obtain ⟨n1, n2, n3, n4, n5, n6⟩ := HNN.out
          have := (n2 ge rfl).1
          have := (n4 gs rfl).1
          omega
        obtain ⟨g1, hC1⟩ := own_zero hC j (.int .i64 0)
        have hI1 := BaseI.step hz3' HI.out HNN.out g1 (.inr rfl) ⟨_, hE.kept g1 (.inr (fun e => by have e2 : ge = gs := Option.some.inj e; omega))⟩ hC1
        have HI1 := Lib.hid hI1
        clear hI1 g1 hC1 hE hC
        go_wp2_with ((with_reducible refine at_list ?_); (with_reducible refine cut_at 40 rfl ?_))
        refine Cut.go ?_
        clear c0 c1 c2 c3 c4 c5 fr v0 v1 v2 v3 v4 v5 k2 x6 b1 b2 b3 b4 HI
        refine abs_list (fun W => BaseI w1 Bq st r sl (some ⟨ge, 0, none⟩, r.log.length, ce) sa (some ⟨gs, 0, none⟩, r.log.length, cs) gr gx ga gc W) HI1.out ?_
        clear HI1
        intro w2 hI
        have HI := Lib.hid hI
        clear hI
        obtain ⟨b1, b2, b3, b4⟩ := HI.out.2.1
        have x6 := b2.cell 6
        simp [rgv, rcv] at x6
        obtain ⟨xs, hE⟩ := HI.out.2.2.2.1
        obtain ⟨ys, hC⟩ := HI.out.2.2.2.2
        obtain ⟨v0, v1, v2, v3, v4, v5, c0, c1, c2, c3, c4, c5, fr⟩ := own_cells hE hlt
        obtain ⟨g1, hE1⟩ := own_zero hE j (.int .i64 0)
        have hI1 := BaseI.step hz3' HI.out HNN.out g1 (.inl rfl) hE1 ⟨_, hC.kept g1 (.inr (fun e => by have e2 : gs = ge := Option.some.inj e; omega))⟩
        have HI1 := Lib.hid hI1
        clear hI1 g1 hE1 hE hC
        go_wp2_with fail
        go_roundg (r.log.length - (j + 1))
        case measure => have hkk := AA.out; omega
        case rel => exact ⟨j + 1, rfl, by omega, by go_num, HI1.out⟩
      · obtain rfl : j = r.log.length := by omega
        have B1 := b1
        have L1 := HI.out.2.2.1.1.more HI.out.2.2.1.2.1
        have A1 := HI.out.2.2.1.2.2
        have hB := HI.out.1
        have hz := hB.size
        clear HI HNN hz3'
        go_wp2_with ((with_reducible refine at_list ?_); first | refine wpList_load_blk rfl 24 _ rfl _ rfl _ _ _ (B1) Try.underlying24 rfl rg_info ?_)
        refine (base_any st r sl wr L1 (by omega)).mono ?_
        rintro e w4 ⟨eb, rfl, hR, hb⟩
        have hB4 := below_trans hB hb hz
        have R4 := hR.logAt
        have D1 := b1.keep hb
        have D2 := b2.keep hb
        have D3 := b3.keep hb
        have L4 := L1.keep hb
        have A4 := A1.keep hb
        have hz4 := hB4.size
        clear hb hR L1 A1 hB hz B1 b1 b2 b3 b4 k2 x6
        go_wp2_with ((with_reducible refine at_list ?_); first | (refine wpList_store_own rfl 27 _ _ rfl _ (rcv ⟨4, st, r.prom, r.view, 0, r.com, eb, r.log, (none, 0, 0)⟩) rfl rfl _ _ (Blk.new w4 27 (rcv rec0)) rc_info rfl (rcv_one _) ?_; intro w5 C5 g5) | (with_reducible refine cut_at 51 rfl ?_))
        refine Cut.go ?_
        have hb := below_new g5
        have K4 : HeldR w4 [(ga, r, sa), (gr, r, sl)] := (HeldR.nil.add D1 L4).add D3 A4
        have X4 := D2
        clear D1 D2 D3 L4 A4 g5
        have K5 := K4.keep hb
        have X5 := X4.keep hb
        have R5 := R4.keep hb
        have hB5 := below_trans hB4 hb hz4
        have hz5 := hB5.size
        clear hb K4 X4 R4 hB4 hz4
        generalize w4.heap.size = gb at C5 ⊢
        obtain ⟨eb1, eb2, eb3⟩ := eb
        obtain rfl : eb2 = r.log.length := R5.1
        obtain ⟨sl1, sl2, sl3⟩ := sl
        obtain rfl : sl2 = r.log.length := (K5.log 1 rfl).1
        have x0 := X5.cell 0
        have x1 := X5.cell 1
        have y6 := C5.cell 6
        have z0 := (K5.blk 1 rfl).cell 0
        have z2 := (K5.blk 1 rfl).cell 2
        simp [rgv, rcv] at x0 x1 y6 z0 z2
        go_wp2_with ((with_reducible refine at_list ?_); first | refine wpList_load_blk_g 24 _ rfl rfl _ rfl _ _ _ (K5.blk 0 rfl) Try.underlying24 rfl rg_info ?_ | refine wpList_load_blk_g 24 _ rfl rfl _ rfl _ _ _ (K5.blk 1 rfl) Try.underlying24 rfl rg_info ?_ | refine wpList_load_blk_g 27 _ rfl rfl _ rfl _ _ _ (C5) Try.underlying27 rfl rc_info ?_)
        refine (samereg_any r r sa (sl1, r.log.length, sl3) _ (K5.log 0 rfl) (K5.log 1 rfl) rfl).mono ?_
        rintro e w6 ⟨rfl, hb⟩
        clear x0 x1 y6 z0 z2
        have K6 := K5.keep hb
        have C6 := C5.keep hb
        have X6 := X5.keep hb
        have R6 := R5.keep hb
        have hB6 := below_trans hB5 hb hz5
        have hz6 := hB6.size
        clear hb K5 C5 X5 R5 hB5 hz5
        have x0 := X6.cell 0
        have x1 := X6.cell 1
        have y6 := C6.cell 6
        have z0 := (K6.blk 1 rfl).cell 0
        have z2 := (K6.blk 1 rfl).cell 2
        simp [rgv, rcv] at x0 x1 y6 z0 z2
        go_wp2_with fail
        refine (same_yes r.log r.log rfl rfl rfl eb1 sl1 eb3 sl3 _ R6.2.2.2 (K6.log 1 rfl).2.2.2 (by omega) (by omega)).mono ?_
        rintro e w7 ⟨rfl, hb⟩
        clear x0 x1 y6 z0 z2
        have K7 := K6.keep hb
        have C7 := C6.keep hb
        have X7 := X6.keep hb
        have R7 := R6.keep hb
        have hB7 := below_trans hB6 hb hz6
        have hz7 := hB7.size
        clear hb K6 C6 X6 R6 hB6 hz6
        have x0 := X7.cell 0
        have x1 := X7.cell 1
        have y6 := C7.cell 6
        have z0 := (K7.blk 1 rfl).cell 0
        have z2 := (K7.blk 1 rfl).cell 2
        simp [rgv, rcv] at x0 x1 y6 z0 z2
        by_cases hp : r.prom = 0
        · have hpb : (r.prom == 0) = true := by rw [beq_iff_eq]; exact hp
          have hc := check15_any r (sl1, r.log.length, sl3) _ (K7.log 1 rfl)
          rw [HM.out] at hc
          have HC := Lib.hid hc
          clear hc hp
          go_wp2_with ((with_reducible refine at_list ?_); first | refine wpList_load_blk_g 24 _ rfl rfl _ rfl _ _ _ (K7.blk 0 rfl) Try.underlying24 rfl rg_info ?_ | refine wpList_load_blk_g 24 _ rfl rfl _ rfl _ _ _ (K7.blk 1 rfl) Try.underlying24 rfl rg_info ?_ | refine wpList_load_blk_g 27 _ rfl rfl _ rfl _ _ _ (C7) Try.underlying27 rfl rc_info ?_)
          refine HC.out.mono ?_
          rintro e w8 ⟨rfl, hb⟩
          have hB8 := below_trans hB7 hb hz7
          have hz8 := hB8.size
          go_wp2_with fail
          refine (lives15_any _).mono ?_
          rintro e w9 ⟨rfl, hb9⟩
          have hB9 := below_trans hB8 hb9 hz8
          go_wp2_with fail
          go_ret
          exact ⟨rfl, hB9⟩
        · have hpb : (r.prom == 0) = false := by rw [beq_eq_false_iff_ne]; exact hp
          have hnot : (applyR r (⟨4, st, r.prom, r.view, 0, r.com, (eb1, r.log.length, eb3), r.log, (none, 0, 0)⟩ : RecV).s).isSome = false := by
            have : applyR r (⟨4, st, r.prom, r.view, 0, r.com, (eb1, r.log.length, eb3), r.log, (none, 0, 0)⟩ : RecV).s = none := base_not hp st
            rw [this]; rfl
          have HNT := Lib.hid hnot
          clear hnot hp
          go_wp2_with ((with_reducible refine at_list ?_); first | refine wpList_load_blk_g 24 _ rfl rfl _ rfl _ _ _ (K7.blk 0 rfl) Try.underlying24 rfl rg_info ?_ | refine wpList_load_blk_g 24 _ rfl rfl _ rfl _ _ _ (K7.blk 1 rfl) Try.underlying24 rfl rg_info ?_ | refine wpList_load_blk_g 27 _ rfl rfl _ rfl _ _ _ (C7) Try.underlying27 rfl rc_info ?_)
          refine (may_to false (sl1, r.log.length, sl3) _ _ HNT.out (K7.log 1 rfl) R7 (by show r.log.length ≤ 1000; omega)).mono ?_
          rintro e w8 ⟨rfl, hb⟩
          clear x0 x1 y6 z0 z2
          have K8 := K7.keep hb
          have C8 := C7.keep hb
          have X8 := X7.keep hb
          have R8 := R7.keep hb
          have hB8 := below_trans hB7 hb hz7
          have hz8 := hB8.size
          clear hb K7 C7 X7 R7 hB7 hz7
          have x0 := X8.cell 0
          have x1 := X8.cell 1
          have y6 := C8.cell 6
          have z0 := (K8.blk 1 rfl).cell 0
          have z2 := (K8.blk 1 rfl).cell 2
          simp [rgv, rcv] at x0 x1 y6 z0 z2
          have hc := check15_any r (sl1, r.log.length, sl3) _ (K8.log 1 rfl)
          rw [HM.out] at hc
          have HC := Lib.hid hc
          clear hc
          go_wp2_with ((with_reducible refine at_list ?_); first | refine wpList_load_blk_g 24 _ rfl rfl _ rfl _ _ _ (K8.blk 0 rfl) Try.underlying24 rfl rg_info ?_ | refine wpList_load_blk_g 24 _ rfl rfl _ rfl _ _ _ (K8.blk 1 rfl) Try.underlying24 rfl rg_info ?_ | refine wpList_load_blk_g 27 _ rfl rfl _ rfl _ _ _ (C8) Try.underlying27 rfl rc_info ?_)
          refine HC.out.mono ?_
          rintro e w9 ⟨rfl, hb⟩
          have hB9 := below_trans hB8 hb hz8
          have hz9 := hB9.size
          go_wp2_with fail
          refine (lives15_any _).mono ?_
          rintro e w10 ⟨rfl, hb9⟩
          have hB10 := below_trans hB9 hb9 hz9
          go_wp2_with fail
          go_ret
          exact ⟨rfl, hB10⟩
end Go.Proofs.Ytbicefilfhcgoaa
