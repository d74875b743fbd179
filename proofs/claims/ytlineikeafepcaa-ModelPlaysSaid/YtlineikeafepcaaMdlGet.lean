/-
  The walks over a model's none, State and Allows.
-/
import Derived.Test.YtlineikeafepcaaMdlDo
set_option linter.unusedSimpArgs false
set_option linter.unusedVariables false
set_option maxRecDepth 100000
namespace Go.Proofs.Ytlineikeafepcaa
open Go Go.RowKit Go.Sq Go.Wd Go.Arch

set_option maxHeartbeats 2000000 in
theorem mnone_any (s : Int) (g : Nat) (w : World) (h : w.cell? ⟨g, 0, none⟩ = some (.bool true)) :
    Calls Try.prog 45 #[.pointer (some ⟨g, 0, none⟩), .int .i64 s] w fun e w' => e = .returned (.bool (decide (¬ (0 ≤ s ∧ s < 4)))) ∧ w' = w := by
  by_cases h0 : s < 0
  · go_enter Try.func45, Try.ntmps45
    go_wp2_with fail
    go_ret
    exact ⟨ret_bool (by first | (simp; done) | (simp; omega)), rfl⟩
  by_cases h4 : 4 ≤ s
  · go_enter Try.func45, Try.ntmps45
    go_wp2_with fail
    go_ret
    exact ⟨ret_bool (by first | (simp; done) | (simp; omega)), rfl⟩
  · go_enter Try.func45, Try.ntmps45
    go_wp2_with fail
    go_ret
    exact ⟨ret_bool (by first | (simp; done) | (simp; omega)), rfl⟩

/-- The slice of a stream's log. -/
theorem MdlAt.stream {w : World} {g : Nat} {ss : Nat → SlcE} {M : Logs} (h : MdlAt w g ss M) {s : Nat} (hs : s < 4) : ∃ A c, w.cell? ⟨g, 1 + s, none⟩ = some (.slice A (M s).length c) ∧ (M s).length ≤ c ∧ c ≤ 9223372036854775807 ∧ Ents w w.heap.size A (M s) := by
  have h1 := h.slice hs
  have h2 := (h.2 s hs).to_log
  obtain ⟨⟨A, n, c⟩, hh⟩ : ∃ x, ss s = x := ⟨_, rfl⟩
  rw [hh] at h1 h2
  obtain rfl : n = (M s).length := h2.1
  exact ⟨A, c, h1, h2.2.1, h2.2.2.1, h2.2.2.2⟩

set_option maxHeartbeats 4000000 in
theorem state_any (M : Logs) (s : Int) (g : Nat) (ss : Nat → SlcE) (w : World) (H : MdlAt w g ss M) (HF : FineM M) :
    Calls Try.prog 19 #[.pointer (some ⟨g, 0, none⟩), .int .i64 s] w fun e w' => e = .returned (.tuple #[.agg (stv (stateM M s).1).toArray, .int .i64 (stateM M s).2]) ∧ Below w.heap.size w w' := by
  have hz : Below w.heap.size w (w.alloc (.cells #[.int .i64 0, .bool false, .int .i64 0, .int .i64 0] 40)) := (Below.refl _ _).alloc (Nat.le_refl _) _
  have BR := Blk.new w 40 [.int .i64 0, .bool false, .int .i64 0, .int .i64 0]
  have hm := H.keep hz
  have c0 := hm.made
  have HH := Lib.hid (And.intro hz (And.intro BR hm))
  have hgl := H.lt
  clear hz BR hm H
  go_enter Try.func19, Try.ntmps19
  go_wp2_with fail
  refine (mnone_any s g _ c0).mono ?_
  rintro e w1 ⟨rfl, rfl⟩
  obtain ⟨hw1, R1, M1⟩ := HH.out
  clear HH
  generalize (w.alloc (.cells #[.int .i64 0, .bool false, .int .i64 0, .int .i64 0] 40)) = w1 at *
  have hz1 := hw1.size
  by_cases hs : 0 ≤ s ∧ s < 4
  case neg =>
    have hd : stateM M s = (⟨0, false, 0, 0⟩, 2) := if_neg hs
    rw [show decide (¬ (0 ≤ s ∧ s < 4)) = true from decide_eq_true hs]
    go_wp2_with ((with_reducible refine at_list ?_); first | (refine wpList_store_own rfl 40 _ _ rfl _ (stv ⟨0, false, 0, 0⟩) rfl rfl _ _ (R1) state_info rfl (stv_one _) ?_; intro w2 R2 g2))
    apply ret_of
    · exact results_blk_tmp rfl _ _ _ _ _ _ rfl (R2) Try.underlying40 rfl state_info _ rfl
    refine ⟨rfl, ?_⟩
    rw [hd]
    exact ⟨rfl, hw1.trans (below_grown g2 (Nat.le_refl _) hz1)⟩
  case pos =>
    have hd : stateM M s = ((foldS (M s.toNat)).1, 0) := if_pos hs
    rw [show decide (¬ (0 ≤ s ∧ s < 4)) = false from decide_eq_false (fun h => h hs)]
    obtain ⟨S, rfl⟩ := Int.eq_ofNat_of_zero_le hs.1
    have hS4 : S < 4 := by omega
    have hS4i : (S : Int) < 4 := by omega
    rw [show (S : Int).toNat = S from rfl] at hd
    have HD := Lib.hid hd
    obtain ⟨A, c, s1, k1, k2, E1⟩ := M1.stream hS4
    have hl := (HF S hS4).1
    have HE := Lib.hid E1
    clear hs hd E1 M1
    go_wp2_with fail
    refine (of_any (M S) A c w1 HE.out (by omega) (fine_wf HF hS4)).mono ?_
    rintro e w2 ⟨v, rfl, _, hb⟩
    have hw2 := below_trans hw1 hb hz1
    have R2 := R1.keep hb
    have hz2 := hw2.size
    have l2 := R2.lt
    have BS : Blk (w2.alloc (.cells #[.int .i64 0, .bool false, .int .i64 0, .int .i64 0] 40)) w2.heap.size 40 [.int .i64 0, .bool false, .int .i64 0, .int .i64 0] := Blk.new w2 _ _
    clear hb R1 hw1 hz1 s1 HE c0
    go_wp2_with ((with_reducible refine at_list ?_); first | (refine wpList_store_own rfl 40 _ _ rfl _ (stv (foldS (M S)).1) rfl rfl _ _ (BS) state_info rfl (stv_one _) ?_; intro w3 S3 g3) | (with_reducible refine cut_at 34 rfl ?_))
    refine Cut.go ?_
    have hb3 := below_new g3
    have R3 := R2.keep hb3
    have hw3 := below_trans hw2 hb3 hz2
    have hz3 := hw3.size
    clear hb3 g3 BS R2
    go_wp2_with ((with_reducible refine at_list ?_); first | refine wpList_load_blk rfl 40 _ rfl _ rfl _ _ _ (S3) Try.underlying40 rfl state_info ?_ | (refine wpList_store_own rfl 40 _ _ rfl _ (stv (foldS (M S)).1) rfl rfl _ _ (R3) state_info rfl (stv_one _) ?_; intro w4 R4 g4))
    apply ret_of
    · exact results_blk_tmp rfl _ _ _ _ _ _ rfl (R4) Try.underlying40 rfl state_info _ rfl
    refine ⟨rfl, ?_⟩
    rw [HD.out]
    exact ⟨rfl, hw3.trans (below_grown g4 (Nat.le_refl _) hz3)⟩
end Go.Proofs.Ytlineikeafepcaa
