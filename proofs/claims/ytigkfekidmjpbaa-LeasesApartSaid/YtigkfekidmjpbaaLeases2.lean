/-
  The walks over Release and New of a book of leases, and over the functions on a book that is none.
-/
import Derived.Test.YtigkfekidmjpbaaLeases
import Derived.Carry
set_option linter.unusedSimpArgs false
set_option linter.unusedVariables false
namespace Go.Proofs.Ytigkfekidmjpbaa
open Go.RowKit Go.Sq Go.Im

/-- Release. -/
def relG (G : Option (Int × Int)) (ep : Int) : Option (Int × Int) :=
  match G with
    | none => none
    | some g => if g.1 = ep then some (ep, 0) else some g

def relL (G : Int → Option (Int × Int)) (s ep : Int) : Int → Option (Int × Int) :=
  fun x => if x = s then relG (G s) ep else G x

theorem relL_none {G : Int → Option (Int × Int)} {s ep : Int} (h : relG (G s) ep = G s) : relL G s ep = G := by
  funext x
  by_cases hx : x = s
  · subst hx; simp [relL, h]
  · simp [relL, hx]

set_option maxHeartbeats 2000000 in
theorem lrelease_any (b m n : Nat) (hn : n < maxLen) (gr : Int) (G : Int → Option (Int × Int)) (s ep : Int) (hs : (Lit.int .i64 s).wf = true) (w : World) (h : Bk w b m n gr G) :
    Calls Try.prog 20 #[.pointer (some ⟨b, 0, none⟩), .int .i64 s, .int .i64 ep] w fun e w' => e = .returned (.int .i64 0) ∧ Bk w' b m (n + 1) gr (relL G s ep) ∧ But m w w' := by
  have hbk := h
  obtain ⟨h1, h2, h3, hm⟩ := h
  have hlt := hm.lt
  have hbm := hbk.ne
  have hl := hm.look_ok Try.underlying3 Try.underlying45 (zero_grant w) hs
  cases hG : G s with
  | none =>
    simp only [hG, Option.map_none, Option.getD_none, Option.isSome_none] at hl
    go_enter Try.func20, Try.ntmps20
    go_wp2_with fail
    refine (none_book b true _ h1).mono ?_
    rintro e w1 ⟨rfl, rfl⟩
    go_wp2_with fail
    go_ret
    refine ⟨rfl, ?_, World.grownBy_alloc _ _ _⟩
    rw [relL_none (by simp [relG, hG])]
    exact (hbk.kept (World.grownBy_alloc w1 _ none) (by simp) (by simp)).mono (by omega)
  | some g =>
    simp only [hG, Option.map_some, Option.getD_some, Option.isSome_some] at hl
    by_cases hc : g.1 = ep
    · subst hc
      go_enter Try.func20, Try.ntmps20
      go_wp2_with fail
      refine (none_book b true _ h1).mono ?_
      rintro e w1 ⟨rfl, rfl⟩
      have hW : w1.grownBy (w1.alloc (.cells #[.int .i64 g.1, .int .i64 g.2] 70)) (some m) := World.grownBy_alloc _ _ _
      have hkW := hbk.kept (World.grownBy_alloc w1 (.cells #[.int .i64 g.1, .int .i64 g.2] 70) none) (by simp) (by simp)
      obtain ⟨w2, hst, hm2, htu⟩ := (hkW.2.2.2).store Try.underlying3 Try.underlying45 hn hs (.agg #[.int .i64 g.1, .int .i64 0])
      have hg2 := hW.trans htu.grown
      have h3' := hkW.2.2.1
      go_wp2_with fail
      go_ret
      refine ⟨rfl, hbk.stored hg2 ?_, hg2⟩
      rw [← upd_map (G := G) (s := s) (a := g.1) (c := 0)]
      · exact hm2
      · intro x
        by_cases hx : x = s
        · subst hx
          simp [relL, relG, hG]
        · simp [relL, hx]
    · go_enter Try.func20, Try.ntmps20
      go_wp2_with fail
      refine (none_book b true _ h1).mono ?_
      rintro e w1 ⟨rfl, rfl⟩
      go_wp2_with fail
      go_ret
      refine ⟨rfl, ?_, World.grownBy_alloc _ _ _⟩
      rw [relL_none (by simp [relG, hG, hc])]
      exact (hbk.kept (World.grownBy_alloc w1 _ none) (by simp) (by simp)).mono (by omega)

/-- New. -/
def graceL (re : Bool) (now : Int) : Int := if re then afterS now else 0

theorem lnew_any (now : Int) (h0 : -9223372036854775808 ≤ now) (re : Bool) (w : World) :
    Calls Try.prog 14 #[.int .i64 now, .bool re] w fun e w' => ∃ b m, e = .returned (.pointer (some ⟨b, 0, none⟩)) ∧ Bk w' b m 0 (graceL re now) (fun _ => none) ∧ Below w.heap.size w w' ∧ w.heap.size ≤ b ∧ w.heap.size ≤ m := by
  have hmk := run_makeMap (P := Try.prog) 45 w
  have him := IMap.made Try.prog 3 w
  have hm0 := him.alloc (.cells #[.bool true, .int .i64 0, .map (some w.heap.size)] 47)
  cases re
  · go_enter Try.func14, Try.ntmps14
    go_wp2_with fail
    go_ret
    refine ⟨w.heap.size + 1, w.heap.size, rfl, ⟨by simp [go_sem], by simp [go_sem, graceL], by simp [go_sem], hm0⟩, by (repeat (first | with_reducible apply Below.drew | with_reducible refine Below.setCell ?_ (by first | exact Nat.le_refl _ | (simp; done) | (simp; omega) | omega) _ | with_reducible refine Below.alloc ?_ (by first | exact Nat.le_refl _ | (simp; done) | (simp; omega) | omega) _ | with_reducible exact Below.refl _ _ | with_reducible assumption)), by omega, by omega⟩
  · go_enter Try.func14, Try.ntmps14
    go_wp2_with fail
    refine (after_any _ h0 _).mono ?_
    rintro e w1 ⟨rfl, rfl⟩
    go_wp2_with fail
    go_ret
    refine ⟨w.heap.size + 1, w.heap.size, rfl, ⟨by simp [go_sem], by simp [go_sem, graceL], by simp [go_sem], him.alloc _⟩, by (repeat (first | with_reducible apply Below.drew | with_reducible refine Below.setCell ?_ (by first | exact Nat.le_refl _ | (simp; done) | (simp; omega) | omega) _ | with_reducible refine Below.alloc ?_ (by first | exact Nat.le_refl _ | (simp; done) | (simp; omega) | omega) _ | with_reducible exact Below.refl _ _ | with_reducible assumption)), by omega, by omega⟩

/-! ### A book that is none -/
/-- It is nil, or not made. -/
def NoBook (w : World) (v : Value) : Prop := v = .pointer none ∨ ∃ b, v = .pointer (some ⟨b, 0, none⟩) ∧ w.cell? ⟨b, 0, none⟩ = some (.bool false)

theorem none_no {v : Value} {w : World} (h : NoBook w v) : Calls Try.prog 33 #[v] w fun e w' => e = .returned (.bool true) ∧ w' = w := by
  rcases h with rfl | ⟨b, rfl, h⟩
  · exact none_nil w
  · exact none_book b false w h

theorem lmay_no {v : Value} (s ep now : Int) {w : World} (h : NoBook w v) :
    Calls Try.prog 17 #[v, .int .i64 s, .int .i64 ep, .int .i64 now] w fun e w' => e = .returned (.bool false) ∧ Below w.heap.size w w' := by
  go_enter Try.func17, Try.ntmps17
  go_wp2_with fail
  refine (none_no h).mono ?_
  rintro e w1 ⟨rfl, rfl⟩
  go_wp2_with fail
  go_ret
  exact ⟨rfl, by (repeat (first | with_reducible apply Below.drew | with_reducible refine Below.setCell ?_ (by first | exact Nat.le_refl _ | (simp; done) | (simp; omega) | omega) _ | with_reducible refine Below.alloc ?_ (by first | exact Nat.le_refl _ | (simp; done) | (simp; omega) | omega) _ | with_reducible exact Below.refl _ _ | with_reducible assumption))⟩

theorem lholder_no {v : Value} (s now : Int) {w : World} (h : NoBook w v) :
    Calls Try.prog 16 #[v, .int .i64 s, .int .i64 now] w fun e w' => e = .returned (.tuple #[.int .i64 0, .bool false]) ∧ Below w.heap.size w w' := by
  go_enter Try.func16, Try.ntmps16
  go_wp2_with fail
  refine (none_no h).mono ?_
  rintro e w1 ⟨rfl, rfl⟩
  go_wp2_with fail
  apply ret_of
  · simp only [results, Try.results16]
    go_simp
    with_reducible rfl
  refine ⟨rfl, ?_⟩
  exact ⟨rfl, by (repeat (first | with_reducible apply Below.drew | with_reducible refine Below.setCell ?_ (by first | exact Nat.le_refl _ | (simp; done) | (simp; omega) | omega) _ | with_reducible refine Below.alloc ?_ (by first | exact Nat.le_refl _ | (simp; done) | (simp; omega) | omega) _ | with_reducible exact Below.refl _ _ | with_reducible assumption))⟩

theorem lgrant_no {v : Value} (s ep now : Int) {w : World} (h : NoBook w v) :
    Calls Try.prog 15 #[v, .int .i64 s, .int .i64 ep, .int .i64 now] w fun e w' => e = .returned (.int .i64 1) ∧ Below w.heap.size w w' := by
  go_enter Try.func15, Try.ntmps15
  go_wp2_with fail
  refine (none_no h).mono ?_
  rintro e w1 ⟨rfl, rfl⟩
  go_wp2_with fail
  go_ret
  exact ⟨rfl, by (repeat (first | with_reducible apply Below.drew | with_reducible refine Below.setCell ?_ (by first | exact Nat.le_refl _ | (simp; done) | (simp; omega) | omega) _ | with_reducible refine Below.alloc ?_ (by first | exact Nat.le_refl _ | (simp; done) | (simp; omega) | omega) _ | with_reducible exact Below.refl _ _ | with_reducible assumption))⟩

theorem lrelease_no {v : Value} (s ep : Int) {w : World} (h : NoBook w v) :
    Calls Try.prog 20 #[v, .int .i64 s, .int .i64 ep] w fun e w' => e = .returned (.int .i64 1) ∧ Below w.heap.size w w' := by
  go_enter Try.func20, Try.ntmps20
  go_wp2_with fail
  refine (none_no h).mono ?_
  rintro e w1 ⟨rfl, rfl⟩
  go_wp2_with fail
  go_ret
  exact ⟨rfl, by (repeat (first | with_reducible apply Below.drew | with_reducible refine Below.setCell ?_ (by first | exact Nat.le_refl _ | (simp; done) | (simp; omega) | omega) _ | with_reducible refine Below.alloc ?_ (by first | exact Nat.le_refl _ | (simp; done) | (simp; omega) | omega) _ | with_reducible exact Below.refl _ _ | with_reducible assumption))⟩
end Go.Proofs.Ytigkfekidmjpbaa
