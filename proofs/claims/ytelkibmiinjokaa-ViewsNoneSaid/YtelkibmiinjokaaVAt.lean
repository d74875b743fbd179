/-
  The walk over 'views.At'.
-/
import Derived.Test.YtelkibmiinjokaaStep
set_option linter.unusedSimpArgs false
set_option linter.unusedVariables false
set_option maxRecDepth 100000
namespace Go.Proofs.Ytelkibmiinjokaa
open Go Go.RowKit Go.Sq Go.Wd Go.Arch

/-- Totals of the first k items, as they are told. -/
def atK (l : List Itm) (k : Int) : Option Tot := if k < 0 ∨ (l.length : Int) < k then none else atT (l.take k.toNat)
theorem atT_take {l : List Itm} {j : Nat} {x : Itm} (h : l[j]? = some x) : atT (l.take (j + 1)) = (atT (l.take j)).bind fun t => vstepT t x := by
  rw [List.take_add_one, h]; exact atT_snoc _ _
theorem atFrom_none (l : List Itm) : l.foldl (fun o x => o.bind fun t => vstepT t x) none = none := by
  induction l with
  | nil => rfl
  | cons a l ih => exact ih
theorem atT_app (l m : List Itm) (h : atT l = none) : atT (l ++ m) = none := by
  unfold atT atFrom at h ⊢
  rw [List.foldl_append, h]
  exact atFrom_none m

set_option maxHeartbeats 4000000 in
theorem at_off (l : List Itm) (A : Option Addr) (c : Nat) (k : Int) (w : World) (hk : k < 0 ∨ (l.length : Int) < k) :
    Calls Try.prog 31 #[.slice A l.length c, .int .i64 k] w fun e w' => e = .returned (.tuple #[.agg (totv tot0).toArray, .int .i64 2]) ∧ Below w.heap.size w w' := by
  have HZ : Blk (w.alloc (.cells (totv tot0).toArray 51)) w.heap.size 51 (totv tot0) := Blk.new w _ _
  have hb : Below w.heap.size w (w.alloc (.cells (totv tot0).toArray 51)) := (Below.refl _ _).alloc (Nat.le_refl _) _
  have HH := Lib.hid (And.intro HZ hb)
  clear HZ hb
  by_cases h0 : k < 0
  case' pos => clear hk
  case' neg =>
    have h4 : (l.length : Int) < k := by omega
    clear hk
  all_goals
    go_enter Try.func31, Try.ntmps31
    go_wp2_with ((with_reducible refine at_list ?_); first | (refine wpList_store_blk rfl 51 _ _ rfl _ (totv tot0) rfl rfl _ _ (HH.out.1) tot_info rfl (totv_one _) ?_; intro w8 B8 hb8 hk8))
    have hb : Below w.heap.size w w8 := HH.out.2.trans (hb8 _ (by omega))
    apply ret_of
    · exact results_blk_tmp rfl _ _ _ _ _ _ rfl (B8) Try.underlying51 rfl tot_info _ rfl
    · exact ⟨rfl, rfl, hb⟩

set_option maxHeartbeats 4000000 in
theorem at_in (l : List Itm) (A : Option Addr) (c k : Nat) (w : World) (hi : Items w w.heap.size A l) (hk : k ≤ l.length) (hc : l.length ≤ c) (hc2 : c ≤ 9223372036854775807) :
    Calls Try.prog 31 #[.slice A l.length c, .int .i64 k] w fun e w' => e = .returned (.tuple #[.agg (totv (totR (atT (l.take k))).1).toArray, .int .i64 (totR (atT (l.take k))).2]) ∧ Below w.heap.size w w' := by
  have hw := Below.refl w.heap.size w
  have HE := Lib.hid hi
  clear hi
  have H0 : Below w.heap.size w ((w.alloc (.cells (totv tot0).toArray 51)).alloc (.cells (totv tot0).toArray 51)) ∧ Blk ((w.alloc (.cells (totv tot0).toArray 51)).alloc (.cells (totv tot0).toArray 51)) w.heap.size 51 (totv tot0) ∧
      Blk ((w.alloc (.cells (totv tot0).toArray 51)).alloc (.cells (totv tot0).toArray 51)) (w.heap.size + 1) 51 (totv tot0) :=
    ⟨((Below.refl _ _).alloc (Nat.le_refl _) _).alloc (by simp) _, (Blk.new w _ _).alloc _, Blk.newAt _ _ _ (by simp)⟩
  have HH := Lib.hid H0
  clear H0
  have g1 : decide (l.length < k) = false := by simpa using hk
  have g2 : decide ((k : Int) < 0) = false := by simp
  go_enter Try.func31, Try.ntmps31
  go_wp2_with fail
  go_loopg [23] k (fun q i wr => ∃ (j : Nat) (t : Tot), q = k - j ∧ j ≤ k ∧ i = .int .i64 j ∧ atT (l.take j) = some t ∧ Below w.heap.size w wr ∧ Blk wr w.heap.size 51 (totv tot0) ∧ Blk wr (w.heap.size + 1) 51 (totv t))
  case atStart => exact ⟨0, tot0, rfl, by omega, rfl, rfl, HH.out⟩
  case round =>
    obtain ⟨j, t, hq, hj, rfl, ht, hB, B0, B1⟩ := hrel
    have AA : Aside (gk = k - j ∧ atT (l.take j) = some t) := ⟨hq, ht⟩
    clear hq ht
    by_cases hlt : j < k
    · obtain ⟨b1, o1, x, rfl, hx, FA, HV⟩ := HE.out.at_ (show j < l.length by omega)
      obtain ⟨q0, q1, q2, q3, q4, q5, q6, q7, q8, q9⟩ := FA _ hB
      have hS := Lib.hid (atT_take hx.out)
      have hz := hB.size
      have hjc : j ≤ c := by omega
      have hV := (HV.out.below hB).more hz
      have HV2 := Lib.hid hV
      clear FA hV
      go_wp2_with ((with_reducible refine at_list ?_); refine wpList_load_blk rfl 51 _ rfl _ rfl _ _ _ (B1.alloc _) Try.underlying51 rfl tot_info ?_)
      refine (step_any t x _ ((HV2.out.below ((Below.refl _ _).alloc (Nat.le_refl _) _)).more (by simp))).mono ?_
      rintro e' w1 ⟨rfl, hb⟩
      have hb1 : Below wr.heap.size wr w1 := below_trans ((Below.refl _ _).alloc (Nat.le_refl _) _) hb (by simp)
      have hB1 := below_trans hB hb1 hz
      have C0 := B0.keep hb1
      have C1 := B1.keep hb1
      clear hb hb1 hB B0 B1 q0 q1 q2 q3 q4 q5 q6 q7 q8 q9
      rw [AA.out.2] at hS
      cases hs : vstepT t x with
      | none =>
        have hN : atT (l.take k) = none := by
          have h1 : atT (l.take (j + 1)) = none := hS.out.trans hs
          have h2 := atT_app (l.take (j + 1)) ((l.take k).drop (j + 1)) h1
          have h3 : l.take (j + 1) = (l.take k).take (j + 1) := by rw [List.take_take, Nat.min_eq_left (by omega)]
          rwa [h3, List.take_append_drop] at h2
        have HN := Lib.hid hN
        clear hN hs hS
        simp only [totR]
        go_wp2_with ((with_reducible refine at_list ?_); first | (refine wpList_store_blk rfl 51 _ _ rfl _ (totv tot0) rfl rfl _ _ (C1) tot_info rfl (totv_one _) ?_; intro w8 B8 hb8 hk8) | (refine wpList_store_blk rfl 51 _ _ rfl _ (totv tot0) rfl rfl _ _ (hk8 _ _ _ (by omega) C0) tot_info rfl (totv_one _) ?_; intro w9 B9 hb9 hk9))
        have hb : Below w.heap.size w w9 := (hB1.trans (hb8 _ (by omega))).trans (hb9 _ (by omega))
        apply ret_of
        · exact results_blk_tmp rfl _ _ _ _ _ _ rfl (B9) Try.underlying51 rfl tot_info _ rfl
        · exact ⟨rfl, by rw [HN.out]; rfl, hb⟩
      | some t' =>
        have hT : atT (l.take (j + 1)) = some t' := hS.out.trans hs
        have HT := Lib.hid hT
        clear hT hs hS
        simp only [totR]
        go_wp2_with ((with_reducible refine at_list ?_); (refine wpList_store_blk rfl 51 _ _ rfl _ (totv _) rfl rfl _ _ (C1) tot_info rfl (totv_one _) ?_; intro w8 B8 hb8 hk8))
        go_roundg (k - (j + 1))
        case measure => have hkk := AA.out.1; omega
        case rel => exact ⟨j + 1, t', rfl, by omega, by go_num, HT.out, hB1.trans (hb8 _ (by omega)), hk8 _ _ _ (by omega) C0, B8⟩
    · obtain rfl : j = k := by omega
      go_wp2_with ((with_reducible refine at_list ?_); first | refine wpList_load_blk rfl 51 _ rfl _ rfl _ _ _ (B1) Try.underlying51 rfl tot_info ?_ | (refine wpList_store_blk rfl 51 _ _ rfl _ (totv _) rfl rfl _ _ (B0) tot_info rfl (totv_one _) ?_; intro w8 B8 hb8 hk8))
      have hb : Below w.heap.size w w8 := hB.trans (hb8 _ (by omega))
      apply ret_of
      · exact results_blk_tmp rfl _ _ _ _ _ _ rfl (B8) Try.underlying51 rfl tot_info _ rfl
      · exact ⟨rfl, by rw [AA.out.2]; rfl, hb⟩

theorem at_any (l : List Itm) (A : Option Addr) (c : Nat) (k : Int) (w : World) (hi : Items w w.heap.size A l) (hc : l.length ≤ c) (hc2 : c ≤ 9223372036854775807) :
    Calls Try.prog 31 #[.slice A l.length c, .int .i64 k] w fun e w' => e = .returned (.tuple #[.agg (totv (totR (atK l k)).1).toArray, .int .i64 (totR (atK l k)).2]) ∧ Below w.heap.size w w' := by
  unfold atK
  by_cases h : k < 0 ∨ (l.length : Int) < k
  · rw [if_pos h]
    exact at_off l A c k w h
  · rw [if_neg h]
    have := at_in l A c k.toNat w hi (by omega) hc hc2
    rwa [show ((k.toNat : Nat) : Int) = k by omega] at this
end Go.Proofs.Ytelkibmiinjokaa
