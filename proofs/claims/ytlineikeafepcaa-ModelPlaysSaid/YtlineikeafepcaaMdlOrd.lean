/-
  The walk over a model's Orders.
-/
import Derived.Test.YtlineikeafepcaaOrdRow
import Derived.Test.YtlineikeafepcaaMdlGet
import Derived.Deep.LoopGhost
set_option linter.unusedSimpArgs false
set_option linter.unusedVariables false
set_option maxRecDepth 100000
namespace Go.Proofs.Ytlineikeafepcaa
open Go Go.RowKit Go.Sq Go.Wd Go.Arch

set_option maxHeartbeats 2000000 in
theorem orders_any (M : Logs) (s : Int) (g : Nat) (ss : Nat → SlcE) (w : World) (H : MdlAt w g ss M) (HF : FineM M) :
    Calls Try.prog 22 #[.pointer (some ⟨g, 0, none⟩), .int .i64 s] w fun e w' => ∃ v, e = .returned v ∧ ORow w' w.heap.size v (ordersM M s) ∧ Below w.heap.size w w' := by
  have c0 := H.made
  have hw := Below.refl w.heap.size w
  go_enter Try.func22, Try.ntmps22
  go_wp2_with fail
  refine (mnone_any s g _ c0).mono ?_
  rintro e w1 ⟨rfl, rfl⟩
  by_cases hs : 0 ≤ s ∧ s < 4
  case neg =>
    have hd : ordersM M s = [] := if_neg hs
    rw [show decide (¬ (0 ≤ s ∧ s < 4)) = true from decide_eq_true hs]
    go_wp2_with fail
    go_ret
    exact ⟨_, rfl, by rw [hd]; exact ORow.nil _ _, hw⟩
  case pos =>
    have hd : ordersM M s = (M s.toNat).map ordOf := if_pos hs
    rw [show decide (¬ (0 ≤ s ∧ s < 4)) = false from decide_eq_false (fun h => h hs)]
    obtain ⟨S, rfl⟩ := Int.eq_ofNat_of_zero_le hs.1
    have hS4 : S < 4 := by omega
    have hS4i : (S : Int) < 4 := by omega
    rw [show (S : Int).toNat = S from rfl] at hd
    have HD := Lib.hid hd
    obtain ⟨A, c, s1, k1, k2, E1⟩ := H.stream hS4
    have hl := (HF S hS4).1
    have HE := Lib.hid E1
    clear hs hd E1 H
    generalize M S = l at *
    go_wp2_with fail
    obtain ⟨wo, rfl⟩ : ∃ z, z = w1 := ⟨_, rfl⟩
    go_loopg [5, 18] l.length (fun q v i wr => ∃ (j : Nat), q = l.length - j ∧ j ≤ l.length ∧ i = .int .i64 j ∧ Below wo.heap.size wo wr ∧ ORow wr wo.heap.size v ((l.take j).map ordOf))
    case atStart => exact ⟨0, rfl, by omega, rfl, hw, ORow.nil _ _⟩
    case round =>
      clear hw
      obtain ⟨j, hk, hj, rfl, hwr, hR⟩ := hrel
      have AA : Aside (gk = l.length - j) := hk
      clear hk
      by_cases hlt : j < l.length
      · obtain ⟨b1, o1, x, rfl, hx, FA⟩ := HE.out.at_ hlt
        obtain ⟨p0, p1, p2, p3, p4, p5⟩ := FA _ hwr
        have hb1 : Below wr.heap.size wr (wr.alloc (.cells (vals x).toArray 84)) := (Below.refl _ _).alloc (Nat.le_refl _) _
        have hB1 := below_trans hwr hb1 hwr.size
        obtain ⟨v', w6, hrun, R6, g6⟩ := ORow.snoc (ORow.keep hR hb1) (ordOf x) (by simp; omega) hB1.size (H := wr.heap.size + 1) (by simp)
        have hb2 := hB1.alloc (Nat.le_trans hB1.size (Nat.le_refl _)) (.cells (ordv (ordOf x)).toArray 37)
        have hb6 := below_own hB1 g6 (ORow.keep hR hb1) hB1.size
        have hx1 : (l.take (j + 1)).map ordOf = (l.take j).map ordOf ++ [ordOf x] := by rw [List.take_add_one, hx.out]; simp
        have HR := Lib.hid (And.intro hb6 (And.intro R6 hx1))
        clear hR hB1 hb1 hb2 hb6 R6 g6 hx1 FA
        go_wp2_with (at_builtin; refine wpList_app rfl (by rfl) (by rfl) (by rfl) hrun ?_)
        go_roundg (l.length - (j + 1))
        case measure => have hkk := AA.out; omega
        case rel =>
          refine ⟨j + 1, rfl, by omega, by go_num, HR.out.1, ?_⟩
          rw [HR.out.2.2]
          exact HR.out.2.1
      · obtain rfl : j = l.length := by omega
        rw [List.take_length] at hR
        have HR := Lib.hid (And.intro hwr hR)
        clear hwr hR
        go_wp2_with fail
        go_ret
        exact ⟨_, rfl, by rw [HD.out]; exact HR.out.2, HR.out.1⟩
end Go.Proofs.Ytlineikeafepcaa
