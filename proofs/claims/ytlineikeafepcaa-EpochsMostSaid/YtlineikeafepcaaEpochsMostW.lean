/-
  The walk over the statement EpochsMost.
-/
import Derived.Test.YtlineikeafepcaaEpoRefM
import Derived.Test.YtlineikeafepcaaIntRow
set_option linter.unusedSimpArgs false
set_option linter.unusedVariables false
set_option maxRecDepth 100000
namespace Go.Proofs.Ytlineikeafepcaa
open Go Go.RowKit Go.Sq Go.Wd

theorem makeI_run (w : World) (k : Nat) (hk : k ≤ 2000) : ∃ w1, (Instr.makeSlice 69 (.int .i64 0) (.int .i64 ((k : Int) + 1))).run Try.prog w = .ok (.slice (some ⟨w.heap.size, 0, none⟩) 0 (k + 1)) w1 ∧ RowI w1 w.heap.size (.slice (some ⟨w.heap.size, 0, none⟩) 0 (k + 1)) [] ∧ Below w.heap.size w w1 := by
  obtain ⟨i, hi, hzz⟩ := Option.map_eq_some_iff.1 int_info
  simp only [Prod.mk.injEq] at hzz
  obtain ⟨hz, hs, hb⟩ := hzz
  obtain ⟨w1, h1, h2, h3⟩ := run_makeSlice_owned (P := Try.prog) w w.heap.size 69 3 i (.int .i64 0) 1 Try.underlying69 hi hz hs .i64 .i64 (k + 1) (by omega) (by rw [hb]; omega) (by simp [maxLen]; omega) (Nat.le_refl _)
  refine ⟨w1, ?_, h2, below_own (v := .slice none 0 0) (Below.refl _ _) h3 (RowI.nil _ _) (Nat.le_refl _)⟩
  rw [← h1]
  rfl
/-- A number behind l, seen through the longer slice; l itself is a part of it. -/
theorem rowI_part {w : World} {B g c : Nat} {l m : List Int} {n : Nat} (hn : n = (l ++ m).length) (h : RowI w B (.slice (some ⟨g, 0, none⟩) n c) (l ++ m)) : Nums w w.heap.size (some ⟨g, 0, none⟩) .i64 l := by
  subst hn
  obtain ⟨A2, c2, he, _, _, N8⟩ := RowI.form h
  injection he with e1 _ _
  rw [← e1] at N8
  intro h0
  obtain ⟨b, o, ha, hb, hc⟩ := N8 (by rw [List.length_append]; omega)
  exact ⟨b, o, ha, hb, fun i x hx => hc i x (by rw [List.getElem?_append_left (List.getElem?_eq_some_iff.1 hx).1]; exact hx)⟩
theorem rowI_last {w : World} {B g c : Nat} {l : List Int} {x : Int} {n : Nat} (hn : n = (l ++ [x]).length) (h : RowI w B (.slice (some ⟨g, 0, none⟩) n c) (l ++ [x])) : w.cell? ⟨g, l.length, none⟩ = some (.int .i64 x) := by
  subst hn
  exact RowI.at_ h (by simp)
theorem rowI_two (l : List Int) (A : Option Addr) (c : Nat) (w : World) (x : Int) (hl : Nums w w.heap.size A .i64 l) (hll : l.length ≤ 100) :
    ∃ w1 v2 w2 g c4 w4, (Instr.makeSlice 69 (.int .i64 0) (.int .i64 ((l.length : Int) + 1))).run Try.prog w = .ok (.slice (some ⟨w.heap.size, 0, none⟩) 0 (l.length + 1)) w1 ∧
      (Builtin.append_ #[69, 69] 69 #[.slice (some ⟨w.heap.size, 0, none⟩) 0 (l.length + 1), .slice A l.length c]).run Try.prog w1 = .ok v2 w2 ∧
      (Builtin.append_ #[69, 69] 69 #[v2, .slice (some ⟨w2.heap.size, 0, none⟩) 1 1]).run Try.prog (w2.alloc (.cells #[.int .i64 x] 3)) = .ok (.slice (some ⟨g, 0, none⟩) (l.length + 1) c4) w4 ∧
      l.length + 1 ≤ c4 ∧ c4 ≤ 9223372036854775807 ∧ Hid (Below w.heap.size w w4 ∧ Nums w4 w4.heap.size (some ⟨g, 0, none⟩) .i64 l ∧ w4.cell? ⟨g, l.length, none⟩ = some (.int .i64 x) ∧ g < w4.heap.size) := by
  obtain ⟨w1, hm, R1, b1⟩ := makeI_run w l.length (by omega)
  obtain ⟨v2, w2, h2, R2, g2, _⟩ := RowI.app R1 A c ((hl.below b1).more b1.size) (by simp; omega) b1.size
  have b2 := below_own b1 g2 R1 b1.size
  have ha : Below w2.heap.size w2 (w2.alloc (.cells #[.int .i64 x] 3)) := (Below.refl _ _).alloc (Nat.le_refl _) _
  have R3 := RowI.keep R2 ha
  have b3 := below_trans b2 ha b2.size
  obtain ⟨v4, w4, h4, R4, g4, _⟩ := RowI.app R3 (some ⟨w2.heap.size, 0, none⟩) 1 (nums_one w2 x) (by simp; omega) b3.size
  have b4 := below_own b3 g4 R3 b3.size
  obtain ⟨g, c4, rfl, _, hgm⟩ := World.ownsRow.form R4 (by simp)
  obtain ⟨A2, c2, he, k1, k2, N8⟩ := RowI.form R4
  injection he with e1 e2 e3
  subst e3
  have hn : (([] ++ l) ++ [x]).length = l.length + 1 := by simp
  rw [List.nil_append] at R4
  refine ⟨w1, v2, w2, g, c4, w4, hm, h2, ?_, by simpa using k1, k2, Lib.hid ⟨b4, rowI_part (by simp) R4, rowI_last (by simp) R4, ?_⟩⟩
  · rw [← hn]
    exact h4
  · obtain ⟨b, o, ha', hb, _⟩ := N8 (by simp)
    rw [← e1] at ha'
    obtain ⟨rfl, _⟩ := addr_inj ha'
    exact hb

set_option maxHeartbeats 4000000 in
theorem epochsMost_walk (l : List Int) (A : Option Addr) (c : Nat) (n : Int) (w : World) (hl : Nums w w.heap.size A .i64 l) (hll : l.length ≤ 9223372036854775807) :
    Calls Try.prog 9 #[.slice A l.length c, .int .i64 n] w fun r w' => r = .returned (.bool true) ∧ Below w.heap.size w w' := by
  have hW : Below w.heap.size w w := Below.refl _ _
  go_enter Try.func9, Try.ntmps9
  by_cases h100 : 100 < l.length
  case pos =>
    have h100b : (100 : Int) < (l.length : Int) := by omega
    go_wp2_with fail
    go_ret
    exact ⟨rfl, hW⟩
  have h100b : ¬ (100 : Int) < (l.length : Int) := by omega
  obtain ⟨w1, v2, w2, g, c4, w4, hm, h2, h4, k1, k2, HH⟩ := rowI_two l A c w (-70) hl (by omega)
  have HL := Lib.hid hl
  clear hl
  have k3 : l.length ≤ c4 := by omega
  have k4 : (l.length : Int) ≤ (c4 : Int) := by omega
  have k5 : (l.length : Int) + 1 ≤ (c4 : Int) := by omega
  have hl100 : l.length ≤ 100 := by omega
  go_wp2_with (at_builtin; first | refine wpList_app rfl (by rfl) (by rfl) (by rfl) h2 ?_ | refine wpList_app rfl (by rfl) (by rfl) (by rfl) h4 ?_)
  refine (most_any l _ _ n w4 HH.out.2.1 (by omega)).mono ?_
  rintro r w5 ⟨rfl, hb⟩
  have HH5 := Lib.hid (And.intro (below_trans HH.out.1 hb HH.out.1.size) (And.intro ((HH.out.2.1.below hb).more hb.size) ((hb.cell (p := ⟨g, l.length, none⟩) HH.out.2.2.2).trans HH.out.2.2.1)))
  have hz5 := hb.size
  have hg5 : g < w5.heap.size := by have := HH.out.2.2.2; omega
  clear HH hb hm h2 h4
  obtain ⟨p, hp⟩ : ∃ p, mostE l n = p := ⟨_, rfl⟩
  obtain ⟨y, t⟩ := p
  have HM := Lib.hid (rmost_any l A c n)
  rw [hp] at HM ⊢
  clear hp
  dsimp only at HM ⊢
  go_wp2_with fail
  refine (HM.out w5 ((HL.out.below HH5.out.1).more HH5.out.1.size) (by omega)).mono ?_
  rintro r w6 ⟨rfl, hb⟩
  have HH6 := Lib.hid (And.intro (below_trans HH5.out.1 hb HH5.out.1.size) (And.intro ((HH5.out.2.1.below hb).more hb.size) ((hb.cell (p := ⟨g, l.length, none⟩) hg5).trans HH5.out.2.2)))
  have hg6 : g < w6.heap.size := by have := hb.size; omega
  clear HH5 hb HM hz5 hg5
  have hyy : (y == y) = true := by simp
  have htt : (t == t) = true := by simp
  go_wp2_with fail
  refine (same01_any l _ _ _ _ w6 HH6.out.2.1 ((HL.out.below HH6.out.1).more HH6.out.1.size) (by omega)).mono ?_
  rintro r w7 ⟨rfl, hb⟩
  have hc7 := (hb.cell (p := ⟨g, l.length, none⟩) hg6).trans HH6.out.2.2
  have hB7 := below_trans HH6.out.1 hb HH6.out.1.size
  have hz7 := hB7.size
  clear HH6 hb hg6
  have l1 : (l.length : Int) < (l.length : Int) + 1 := by omega
  have l2 : l.length < l.length + 1 := by omega
  go_wp2_with fail
  refine (works_any _).mono ?_
  rintro r w10 ⟨rfl, hb⟩
  have hB10 := below_trans hB7 hb hz7
  go_wp2_with fail
  go_ret
  exact ⟨rfl, hB10⟩
end Go.Proofs.Ytlineikeafepcaa
