/-
  The walk over 'views.Take', of a view that is there.
-/
import Derived.Test.YtelkibmiinjokaaVView
set_option linter.unusedSimpArgs false
set_option linter.unusedVariables false
set_option maxRecDepth 100000
namespace Go.Proofs.Ytelkibmiinjokaa
open Go Go.RowKit Go.Sq Go.Wd Go.Arch

theorem vwv_set (t t' : Tot) (n : Int) : setAll (vwv t n) 1 (totv t') = vwv t' n := by
  simp [totv, vwv, setAll]
/-- Only block g has turned, and new memory came. -/
def OnlyAt (g : Nat) (w w' : World) : Prop := (∀ B, B ≤ g → Below B w w') ∧ (∀ k T l, k ≠ g → Blk w k T l → Blk w' k T l) ∧ w.heap.size ≤ w'.heap.size
theorem atFrom_snoc {t : Tot} {l : List Itm} {j : Nat} {x : Itm} (h : l[j]? = some x) : atFrom t (l.take (j + 1)) = (atFrom t (l.take j)).bind fun t => vstepT t x := by
  rw [List.take_add_one, h]
  simp [atFrom]
theorem atFrom_app {t : Tot} (l m : List Itm) (h : atFrom t l = none) : atFrom t (l ++ m) = none := by
  unfold atFrom at h ⊢
  rw [List.foldl_append, h]
  exact atFrom_none m
/-- What a view is behind items. -/
def takeT (t : Tot) (v : Nat) (l : List Itm) : Tot × Nat × Int := match atFrom t (l.drop v) with
  | some t' => (t', l.length, 0)
  | none => (t, v, 2)

set_option maxHeartbeats 4000000 in
theorem take_in (l : List Itm) (t : Tot) (v g : Nat) (A : Option Addr) (c : Nat) (w : World) (hi : Items w w.heap.size A l) (hv : v ≤ l.length) (hc : l.length ≤ c) (hc2 : c ≤ 9223372036854775807) (hg : Blk w g 62 (vwv t v)) :
    Calls Try.prog 34 #[.pointer (some ⟨g, 0, none⟩), .slice A l.length c] w fun e w' => e = .returned (.int .i64 (takeT t v l).2.2) ∧ Blk w' g 62 (vwv (takeT t v l).1 (takeT t v l).2.1) ∧ OnlyAt g w w' := by
  have hw := Below.refl w.heap.size w
  have HE := Lib.hid hi
  have hlt := hg.lt
  have m0 := hg.cell 0
  have m1 := hg.cell 21
  simp [vwv, totv] at m0 m1
  have HV := Lib.hid hg
  have h2 : ¬ (l.length : Int) < v := by omega
  have h3 : ¬ l.length < v := by omega
  have hvc : v ≤ c := by omega
  clear hi hg
  by_cases hvl : v < l.length
  · have hvc2 : v < c := by omega
    have hvc3 : ¬ c - v = 0 := by omega
    obtain ⟨b1, o1, x, rfl, -, -, -⟩ := HE.out.at_ hvl
    go_enter Try.func34, Try.ntmps34
    go_wp2_with ((with_reducible refine at_list ?_); first | refine wpList_load_part rfl 51 _ rfl _ _ rfl _ _ _ HV.out (vwv_tot t v) _ Try.underlying51 rfl tot_info ?_ | ((refine wpList_store_blk rfl 51 _ _ rfl _ (totv _) rfl rfl _ _ (Blk.new w _ _) tot_info rfl (totv_one _) ?_; intro w8 B8 hb8 hk8); have V8 := hk8 g _ _ (by omega) (HV.out.alloc _); have m2 := V8.cell 21; simp [vwv, totv] at m2; have l8 := V8.lt))
    have hB : Below w.heap.size w w8 := ((Below.refl _ _).alloc (Nat.le_refl _) _).trans (hb8 _ (Nat.le_refl _))
    clear hb8 hk8 m2 l8 V8
    have V8 : Below w.heap.size w w8 ∧ Blk w8 w.heap.size 51 (totv t) := ⟨hB, B8⟩
    clear hB B8
    go_loopg [38] (l.length - v) (fun q i wr => ∃ (j : Nat) (t' : Tot), q = l.length - v - j ∧ j ≤ l.length - v ∧ i = .int .i64 j ∧ atFrom t ((l.drop v).take j) = some t' ∧ Below w.heap.size w wr ∧ Blk wr w.heap.size 51 (totv t'))
    case atStart => exact ⟨0, t, rfl, by omega, rfl, rfl, V8⟩
    case round =>
      clear V8
      obtain ⟨j, t', hq, hj, rfl, ht, hB, B1⟩ := hrel
      have AA : Aside (gk = l.length - v - j ∧ atFrom t ((l.drop v).take j) = some t') := ⟨hq, ht⟩
      clear hq ht
      by_cases hlt2 : j < l.length - v
      · obtain ⟨b2, o2, x2, hA, hx, FA, HX⟩ := HE.out.at_ (show v + j < l.length by omega)
        cases hA
        have hFA := FA _ hB
        rw [show o1 + (v + j) * 10 = o1 + v * 10 + j * 10 by omega] at hFA
        obtain ⟨q0, q1, q2, q3, q4, q5, q6, q7, q8, q9⟩ := hFA
        have hS := Lib.hid (atFrom_snoc (t := t) (l := l.drop v) (j := j) (x := x2) (by rw [List.getElem?_drop]; exact hx.out))
        have hz := hB.size
        have hV := (HX.out.below hB).more hz
        have HV2 := Lib.hid hV
        have hjc : j ≤ c - v := by omega
        clear FA hV HX hx
        go_wp2_with ((with_reducible refine at_list ?_); refine wpList_load_blk rfl 51 _ rfl _ rfl _ _ _ (B1.alloc _) Try.underlying51 rfl tot_info ?_)
        refine (step_any t' x2 _ ((HV2.out.below ((Below.refl _ _).alloc (Nat.le_refl _) _)).more (by simp))).mono ?_
        rintro e' w1 ⟨rfl, hb⟩
        have hb1 : Below wr.heap.size wr w1 := below_trans ((Below.refl _ _).alloc (Nat.le_refl _) _) hb (by simp)
        have hB1 := below_trans hB hb1 hz
        have C1 := B1.keep hb1
        clear hb hb1 hB B1 q0 q1 q2 q3 q4 q5 q6 q7 q8 q9
        rw [AA.out.2] at hS
        cases hs : vstepT t' x2 with
        | none =>
          have hN : atFrom t (l.drop v) = none := by
            have h1 : atFrom t ((l.drop v).take (j + 1)) = none := hS.out.trans hs
            have h2 := atFrom_app ((l.drop v).take (j + 1)) ((l.drop v).drop (j + 1)) h1
            rwa [List.take_append_drop] at h2
          have hT : takeT t v l = (t, v, 2) := by unfold takeT; rw [hN]
          have HN := Lib.hid hT
          clear hN hs hS hT
          simp only [totR]
          go_wp2_with ((with_reducible refine at_list ?_); (refine wpList_store_blk rfl 51 _ _ rfl _ (totv tot0) rfl rfl _ _ (C1) tot_info rfl (totv_one _) ?_; intro w8 B8 hb8 hk8))
          have hb := hB1.trans (hb8 _ (by omega))
          go_ret
          rw [HN.out]
          exact ⟨rfl, HV.out.below hb hlt, fun B h => hb.mono (by omega), fun k T cs hk hc => hc.keep hb, hb.size⟩
        | some t2 =>
          have hT : atFrom t ((l.drop v).take (j + 1)) = some t2 := hS.out.trans hs
          have HT := Lib.hid hT
          clear hT hs hS
          simp only [totR]
          go_wp2_with ((with_reducible refine at_list ?_); (refine wpList_store_blk rfl 51 _ _ rfl _ (totv _) rfl rfl _ _ (C1) tot_info rfl (totv_one _) ?_; intro w8 B8 hb8 hk8))
          go_roundg (l.length - v - (j + 1))
          case measure => have hkk := AA.out.1; omega
          case rel => exact ⟨j + 1, t2, rfl, by omega, by go_num, HT.out, hB1.trans (hb8 _ (by omega)), B8⟩
      · obtain rfl : j = l.length - v := by omega
        have hF : takeT t v l = (t', l.length, 0) := by
          have h := AA.out.2
          rw [List.take_of_length_le (by simp)] at h
          unfold takeT
          rw [h]
        have HF := Lib.hid hF
        have VG := HV.out.below hB hlt
        clear hF
        go_wp2_with ((with_reducible refine at_list ?_); first | refine wpList_load_blk rfl 51 _ rfl _ rfl _ _ _ (B1) Try.underlying51 rfl tot_info ?_ | (refine wpList_store_part rfl 51 _ _ rfl _ _ (totv _) rfl rfl _ _ VG (Nat.le_of_ble_eq_true rfl) tot_info (totv_one _) ?_; intro w9 B9 hb9 hk9; replace B9 := B9.of_eq (vwv_set _ _ _); have f9 := B9.frozen; have m9 := B9.cell 21; simp [vwv, totv] at m9; have l9 := B9.lt))
        go_ret
        rw [HF.out]
        exact ⟨rfl, (B9.set 21 (.int .i64 l.length)).of_eq rfl, fun B h => ((hB.mono (by omega)).trans (hb9 B h)).setCell h _, fun k T cs hk hc => (hk9 k T cs hk (hc.keep hB)).far hk _, by have h1 := hB.size; have h2 := (hb9 g (Nat.le_refl _)).size; have h3 : (w9.setCell ⟨g, 21, none⟩ (.int .i64 l.length)).heap.size = w9.heap.size := (by simp [World.setCell]); omega⟩
  · obtain rfl : v = l.length := by omega
    have hF : takeT t l.length l = (t, l.length, 0) := by unfold takeT; rw [List.drop_length]; rfl
    have HF := Lib.hid hF
    clear hF
    go_enter Try.func34, Try.ntmps34
    go_wp2_with ((with_reducible refine at_list ?_); first | refine wpList_load_part rfl 51 _ rfl _ _ rfl _ _ _ HV.out (vwv_tot t _) _ Try.underlying51 rfl tot_info ?_ | ((refine wpList_store_blk rfl 51 _ _ rfl _ (totv _) rfl rfl _ _ (Blk.new w _ _) tot_info rfl (totv_one _) ?_; intro w8 B8 hb8 hk8); have V8 := hk8 g _ _ (by omega) (HV.out.alloc _); have m2 := V8.cell 21; simp [vwv, totv] at m2; have l8 := V8.lt))
    all_goals
      have hB : Below w.heap.size w w8 := ((Below.refl _ _).alloc (Nat.le_refl _) _).trans (hb8 _ (Nat.le_refl _))
      have B1 := B8
      have VG := HV.out.below hB hlt
      clear hb8 hk8 m2 l8 V8
      refine wp_loop_rounds 1 ?_
      rw [rounds_succ]
      go_wp2_with ((with_reducible refine at_list ?_); first | refine wpList_load_blk rfl 51 _ rfl _ rfl _ _ _ (B1) Try.underlying51 rfl tot_info ?_ | (refine wpList_store_part rfl 51 _ _ rfl _ _ (totv _) rfl rfl _ _ VG (Nat.le_of_ble_eq_true rfl) tot_info (totv_one _) ?_; intro w9 B9 hb9 hk9; replace B9 := B9.of_eq (vwv_set _ _ _); have f9 := B9.frozen; have m9 := B9.cell 21; simp [vwv, totv] at m9; have l9 := B9.lt))
      go_ret
      rw [HF.out]
      exact ⟨rfl, (B9.set 21 (.int .i64 l.length)).of_eq rfl, fun B h => ((hB.mono (by omega)).trans (hb9 B h)).setCell h _, fun k T cs hk hc => (hk9 k T cs hk (hc.keep hB)).far hk _, by have h1 := hB.size; have h2 := (hb9 g (Nat.le_refl _)).size; have h3 : (w9.setCell ⟨g, 21, none⟩ (.int .i64 l.length)).heap.size = w9.heap.size := (by simp [World.setCell]); omega⟩

theorem take_any (l : List Itm) (t : Tot) (v g : Nat) (A : Option Addr) (c : Nat) (w : World) (hi : Items w w.heap.size A l) (hv : v ≤ l.length) (hc : l.length ≤ c) (hc2 : c ≤ 9223372036854775807) (hg : Blk w g 62 (vwv t v)) :
    Calls Try.prog 34 #[.pointer (some ⟨g, 0, none⟩), .slice A l.length c] w fun e w' => e = .returned (.int .i64 (takeT t v l).2.2) ∧ Blk w' g 62 (vwv (takeT t v l).1 (takeT t v l).2.1) ∧ OnlyAt g w w' :=
  take_in l t v g A c w hi hv hc hc2 hg
end Go.Proofs.Ytelkibmiinjokaa
