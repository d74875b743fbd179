/-
  The walk over 'lives' of the statements on leases.
-/
import Derived.Test.YtigkfekidmjpbaaLeases2
set_option linter.unusedSimpArgs false
set_option linter.unusedVariables false
namespace Go.Proofs.Ytigkfekidmjpbaa
open Go.RowKit Go.Sq Go.Im

theorem Bk.below {w w' : World} {b m n : Nat} {gr : Int} {G : Int → Option (Int × Int)} (h : Bk w b m n gr G) (hg : Below w.heap.size w w') : Bk w' b m n gr G :=
  h.kept (x := none) ⟨hg.os, hg.tape, hg.output, hg.size, fun i hi _ => hg.block i hi⟩ (by simp) (by simp)

theorem below_but {B : Nat} {w w1 w2 : World} {m : Nat} (h : Below B w w1) (hg : But m w1 w2) (hB : B ≤ m) (hw : B ≤ w1.heap.size) : Below B w w2 :=
  ⟨hg.os.trans h.os, hg.tape.trans h.tape, hg.output.trans h.output, Nat.le_trans h.size hg.size, fun k hk => (hg.block k (by omega) (by simp; omega)).trans (h.block k hk)⟩

theorem below_below {B : Nat} {w w1 w2 : World} (h : Below B w w1) (hg : Below w1.heap.size w1 w2) (hw : B ≤ w1.heap.size) : Below B w w2 :=
  ⟨hg.os.trans h.os, hg.tape.trans h.tape, hg.output.trans h.output, Nat.le_trans h.size hg.size, fun k hk => (hg.block k (by omega)).trans (h.block k hk)⟩

theorem lmay_is {b m n : Nat} {gr : Int} {G : Int → Option (Int × Int)} {s ep now : Int} {w : World} (h : Bk w b m n gr G) (hs : (Lit.int .i64 s).wf = true) (r : Bool) (hr : mayL gr (G s) ep now = r) :
    Calls Try.prog 17 #[.pointer (some ⟨b, 0, none⟩), .int .i64 s, .int .i64 ep, .int .i64 now] w fun e w' => e = .returned (.bool r) ∧ Below w.heap.size w w' := by
  subst hr
  exact lmay_any b m n gr G s ep now hs w h

theorem lholder_is {b m n : Nat} {gr : Int} {G : Int → Option (Int × Int)} {s now : Int} {w : World} (h : Bk w b m n gr G) (hs : (Lit.int .i64 s).wf = true) (a : Int) (r : Bool) (hr : holdL (G s) now = (a, r)) :
    Calls Try.prog 16 #[.pointer (some ⟨b, 0, none⟩), .int .i64 s, .int .i64 now] w fun e w' => e = .returned (.tuple #[.int .i64 a, .bool r]) ∧ Below w.heap.size w w' := by
  have := lholder_any b m n gr G s now hs w h
  rw [hr] at this
  exact this

set_option maxHeartbeats 2000000 in
theorem lives_walk (w : World) : Calls Try.prog 13 #[] w fun e w' => e = .returned (.bool true) ∧ Below w.heap.size w w' := by
  go_enter Try.func13, Try.ntmps13
  go_wp2_with fail
  refine (lnew_any 5 (by decide) false w).mono ?_
  rintro e w1 ⟨b, m, rfl, hk, hw, hb, hm⟩
  go_wp2_with fail
  refine (lmay_is hk (by decide) true (by decide)).mono ?_
  rintro e w2 ⟨rfl, hb2⟩
  have hw2 := below_below hw hb2 hw.size
  have hk2 := hk.below hb2
  clear hb2 hw hk
  go_wp2_with fail
  refine (lgrant_any b m 0 (by decide) _ _ 0 1 5 (by decide) (by decide) _ hk2).mono ?_
  rintro e w3 ⟨rfl, hk3, hb3⟩
  have hw3 := below_but hw2 hb3 hm hw2.size
  clear hb3 hw2 hk2
  go_wp2_with fail
  refine (lholder_is hk3 (by decide) 1 true (by decide)).mono ?_
  rintro e w4 ⟨rfl, hb4⟩
  have hw4 := below_below hw3 hb4 hw3.size
  have hk4 := hk3.below hb4
  clear hb4 hw3 hk3
  go_wp2_with fail
  refine (lholder_is hk4 (by decide) 0 false (by decide)).mono ?_
  rintro e w5 ⟨rfl, hb5⟩
  have hw5 := below_below hw4 hb5 hw4.size
  have hk5 := hk4.below hb5
  clear hb5 hw4 hk4
  go_wp2_with fail
  refine (lnew_any 5 (by decide) true _).mono ?_
  rintro e w6 ⟨c, k, rfl, hc6, hb6, _, _⟩
  have hw6 := below_below hw5 hb6 hw5.size
  have hk6 := hk5.below hb6
  clear hb6 hw5 hk5
  go_wp2_with fail
  refine (lmay_is hk6 (by decide) false (by decide)).mono ?_
  rintro e w7 ⟨rfl, hb7⟩
  have hw7 := below_below hw6 hb7 hw6.size
  have hk7 := hk6.below hb7
  have hc7 := hc6.below hb7
  clear hb7 hw6 hk6 hc6
  go_wp2_with fail
  refine (lmay_is hk7 (by decide) true (by decide)).mono ?_
  rintro e w8 ⟨rfl, hb8⟩
  have hw8 := below_below hw7 hb8 hw7.size
  have hk8 := hk7.below hb8
  have hc8 := hc7.below hb8
  clear hb8 hw7 hk7 hc7
  go_wp2_with fail
  refine (lmay_is hk8 (by decide) true (by decide)).mono ?_
  rintro e w9 ⟨rfl, hb9⟩
  have hw9 := below_below hw8 hb9 hw8.size
  have hk9 := hk8.below hb9
  have hc9 := hc8.below hb9
  clear hb9 hw8 hk8 hc8
  go_wp2_with fail
  refine (lmay_is hc9 (by decide) false (by decide)).mono ?_
  rintro e w10 ⟨rfl, hb10⟩
  have hw10 := below_below hw9 hb10 hw9.size
  have hk10 := hk9.below hb10
  have hc10 := hc9.below hb10
  clear hb10 hw9 hk9 hc9
  go_wp2_with fail
  refine (lmay_is hc10 (by decide) true (by decide)).mono ?_
  rintro e w11 ⟨rfl, hb11⟩
  have hw11 := below_below hw10 hb11 hw10.size
  have hk11 := hk10.below hb11
  have hc11 := hc10.below hb11
  clear hb11 hw10 hk10 hc10
  go_wp2_with fail
  go_ret
  exact ⟨rfl, hw11⟩
end Go.Proofs.Ytigkfekidmjpbaa
