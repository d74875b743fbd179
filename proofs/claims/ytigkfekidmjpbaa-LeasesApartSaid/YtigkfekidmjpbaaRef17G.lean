/-
  The walks over Grant and Release of the document's book of leases.
-/
import Derived.Test.YtigkfekidmjpbaaProg
import Derived.Test.YtigkfekidmjpbaaSeq
import Derived.WalkKit
import Derived.WalkSpells
import Derived.WalkLawsBesides
import Derived.RowKit3
import Derived.Lib.Hide
import Derived.Test.YtigkfekidmjpbaaRef17
set_option linter.unusedSimpArgs false
set_option linter.unusedVariables false
namespace Go.Proofs.Ytigkfekidmjpbaa
open Go.RowKit Go.Sq Go.Wd

def upN (E : Nat → Int) (s : Int) (v : Int) : Nat → Int := fun i => if (i : Int) = s then v else E i

def rgrantE (E U : Nat → Int) (s ep : Int) : Nat → Int := if grantE s ep = 0 ∧ E s.toNat ≤ ep then upN E s ep else E
def rgrantU (E U : Nat → Int) (s ep now : Int) : Nat → Int :=
  if grantE s ep = 0 ∧ E s.toNat ≤ ep then upN U s (if ep = E s.toNat ∧ afterS now < U s.toNat then U s.toNat else afterS now) else U

theorem rgrant_no {E U : Nat → Int} {s ep now : Int} (h : ep < E s.toNat) : rgrantE E U s ep = E ∧ rgrantU E U s ep now = U := by
  have : ¬ E s.toNat ≤ ep := by omega
  simp [rgrantE, rgrantU, this]
theorem rgrant_yes {E U : Nat → Int} {s ep now : Int} (hs : 0 ≤ s ∧ s < 4) (h : ¬ ep < 1) (h2 : E s.toNat ≤ ep) :
    rgrantE E U s ep = upN E s ep ∧ rgrantU E U s ep now = upN U s (if ep = E s.toNat ∧ afterS now < U s.toNat then U s.toNat else afterS now) := by
  have h1 : grantE s ep = 0 := by unfold grantE; rw [if_neg (by omega)]
  simp [rgrantE, rgrantU, h1, h2]

theorem RB.atE {w : World} {r : Nat} {gr : Int} {E U : Nat → Int} (h : RB w r gr E U) {k : Nat} (hk : k < 4) : w.cell? ⟨r, 1 + k * 2, none⟩ = some (.int .i64 (E k)) := by
  obtain rfl | rfl | rfl | rfl : k = 0 ∨ k = 1 ∨ k = 2 ∨ k = 3 := by omega
  all_goals exact h.cell _
theorem RB.atU {w : World} {r : Nat} {gr : Int} {E U : Nat → Int} (h : RB w r gr E U) {k : Nat} (hk : k < 4) : w.cell? ⟨r, 1 + k * 2 + 1, none⟩ = some (.int .i64 (U k)) := by
  obtain rfl | rfl | rfl | rfl : k = 0 ∨ k = 1 ∨ k = 2 ∨ k = 3 := by omega
  all_goals exact h.cell _
theorem RB.set {w : World} {r : Nat} {gr : Int} {E U : Nat → Int} (h : RB w r gr E U) {k : Nat} (hk : k < 4) (x y : Int) :
    RB ((w.setCell ⟨r, 1 + k * 2, none⟩ (.int .i64 x)).setCell ⟨r, 1 + k * 2 + 1, none⟩ (.int .i64 y)) r gr (upN E k x) (upN U k y) := by
  have h2 := (Blk.set h (1 + k * 2) (.int .i64 x)).set (1 + k * 2 + 1) (.int .i64 y)
  refine h2.of_eq ?_
  obtain rfl | rfl | rfl | rfl : k = 0 ∨ k = 1 ∨ k = 2 ∨ k = 3 := by omega
  all_goals simp [upN]

set_option maxHeartbeats 1000000 in
theorem rgrant_any (r : Nat) (gr : Int) (E U : Nat → Int) (s ep now : Int) (h0 : -9223372036854775808 ≤ now) (w : World) (h : RB w r gr E U) :
    Calls Try.prog 19 #[.pointer (some ⟨r, 0, none⟩), .int .i64 s, .int .i64 ep, .int .i64 now] w fun e w' => e = .returned (.int .i64 (grantE s ep)) ∧ RB w' r gr (rgrantE E U s ep) (rgrantU E U s ep now) ∧ w.grownBy w' (some r) := by
  have hf := h.frozen
  have hrlt := h.lt
  by_cases hs : 0 ≤ s ∧ s < 4
  · obtain ⟨k, rfl⟩ := Int.eq_ofNat_of_zero_le hs.1
    have hk : k < 4 := by omega
    have cE := h.atE hk
    have cU := h.atU hk
    by_cases he : ep < 1
    · go_enter Try.func19, Try.ntmps19
      go_wp2_with fail
      refine (there_yes _ hs _).mono ?_
      rintro e w1 ⟨rfl, rfl⟩
      go_wp2_with fail
      go_ret
      refine ⟨ret_int (by simp [grantE, he]), ?_, World.grownBy.refl _ _⟩
      simpa [rgrantE, rgrantU, grantE, he] using h
    have he' : 1 ≤ ep := by omega
    clear he
    by_cases hl : ep < E k
    · go_enter Try.func19, Try.ntmps19
      go_wp2_with fail
      refine (there_yes _ hs _).mono ?_
      rintro e w1 ⟨rfl, rfl⟩
      go_wp2_with fail
      go_ret
      refine ⟨ret_int (by simp [grantE]; omega), ?_, World.grownBy_alloc _ _ _⟩
      obtain ⟨g1, g2⟩ := rgrant_no (E := E) (U := U) (s := k) (ep := ep) (now := now) (by simpa using hl)
      rw [g1, g2]
      exact Blk.alloc h _
    obtain ⟨g1, g2⟩ := rgrant_yes (E := E) (U := U) (s := k) (now := now) (ep := ep) hs (by omega) (by simp; omega)
    rw [g1, g2]
    clear g1 g2
    have hl' : E k ≤ ep := by omega
    by_cases hc : ep = E k ∧ afterS now < U k
    · obtain ⟨hc1, hc2⟩ := hc
      rw [if_pos (by simpa using ⟨hc1, hc2⟩)]
      subst hc1
      go_enter Try.func19, Try.ntmps19
      go_wp2_with fail
      refine (there_yes _ hs _).mono ?_
      rintro e w1 ⟨rfl, rfl⟩
      go_wp2_with fail
      refine (over_any _ h0 _).mono ?_
      rintro e w2 ⟨rfl, rfl⟩
      go_wp2_with fail
      go_ret
      refine ⟨ret_int (by simp [grantE]; omega), ?_, by (repeat (first | with_reducible apply only_drew | with_reducible refine only_setCell ?_ (by first | exact Or.inl rfl | (right; simp; done) | (right; simp; omega) | (right; omega)) _ | with_reducible refine only_alloc ?_ _ | with_reducible exact World.grownBy.refl _ _ | with_reducible assumption))⟩
      exact Blk.alloc (RB.set h hk _ _) _
    · rw [if_neg (by simpa using hc)]
      have hc' : ¬ (ep = E k) ∨ U k ≤ afterS now := by omega
      clear hc
      rcases Int.lt_or_eq_of_le hl' with hlt | heq
      · have hne : (ep == E k) = false := by simp; omega
        go_enter Try.func19, Try.ntmps19
        go_wp2_with fail
        refine (there_yes _ hs _).mono ?_
        rintro e w1 ⟨rfl, rfl⟩
        go_wp2_with fail
        refine (over_any _ h0 _).mono ?_
        rintro e w2 ⟨rfl, rfl⟩
        go_wp2_with fail
        go_ret
        refine ⟨ret_int (by simp [grantE]; omega), ?_, by (repeat (first | with_reducible apply only_drew | with_reducible refine only_setCell ?_ (by first | exact Or.inl rfl | (right; simp; done) | (right; simp; omega) | (right; omega)) _ | with_reducible refine only_alloc ?_ _ | with_reducible exact World.grownBy.refl _ _ | with_reducible assumption))⟩
        exact Blk.alloc (RB.set h hk _ _) _
      · subst heq
        have hle : U k ≤ afterS now := by omega
        clear hc'
        go_enter Try.func19, Try.ntmps19
        go_wp2_with fail
        refine (there_yes _ hs _).mono ?_
        rintro e w1 ⟨rfl, rfl⟩
        go_wp2_with fail
        refine (over_any _ h0 _).mono ?_
        rintro e w2 ⟨rfl, rfl⟩
        go_wp2_with fail
        go_ret
        refine ⟨ret_int (by simp [grantE]; omega), ?_, by (repeat (first | with_reducible apply only_drew | with_reducible refine only_setCell ?_ (by first | exact Or.inl rfl | (right; simp; done) | (right; simp; omega) | (right; omega)) _ | with_reducible refine only_alloc ?_ _ | with_reducible exact World.grownBy.refl _ _ | with_reducible assumption))⟩
        exact Blk.alloc (RB.set h hk _ _) _
  · have hg : ¬ grantE s ep = 0 := by simp [grantE]; omega
    have e1 : rgrantE E U s ep = E := by simp [rgrantE, hg]
    have e2 : rgrantU E U s ep now = U := by simp [rgrantU, hg]
    rw [e1, e2]
    clear e1 e2
    go_enter Try.func19, Try.ntmps19
    go_wp2_with fail
    refine (there_no _ hs _).mono ?_
    rintro e w1 ⟨rfl, rfl⟩
    go_wp2_with fail
    go_ret
    refine ⟨ret_int ?_, h, World.grownBy.refl _ _⟩
    simp [grantE]; omega

/-- Release. -/
def rrelU (E U : Nat → Int) (s ep : Int) : Nat → Int := if (0 ≤ s ∧ s < 4) ∧ 1 ≤ ep ∧ E s.toNat = ep then upN U s (-4611686018427387904) else U

theorem RB.setU {w : World} {r : Nat} {gr : Int} {E U : Nat → Int} (h : RB w r gr E U) {k : Nat} (hk : k < 4) (y : Int) :
    RB (w.setCell ⟨r, 1 + k * 2 + 1, none⟩ (.int .i64 y)) r gr E (upN U k y) := by
  refine (Blk.set h (1 + k * 2 + 1) (.int .i64 y)).of_eq ?_
  obtain rfl | rfl | rfl | rfl : k = 0 ∨ k = 1 ∨ k = 2 ∨ k = 3 := by omega
  all_goals simp [upN]

set_option maxHeartbeats 1000000 in
theorem rrelease_any (r : Nat) (gr : Int) (E U : Nat → Int) (s ep : Int) (w : World) (h : RB w r gr E U) :
    Calls Try.prog 21 #[.pointer (some ⟨r, 0, none⟩), .int .i64 s, .int .i64 ep] w fun e w' => e = .returned (.tuple #[]) ∧ RB w' r gr E (rrelU E U s ep) ∧ w.grownBy w' (some r) := by
  have hf := h.frozen
  have hrlt := h.lt
  by_cases hs : 0 ≤ s ∧ s < 4
  · obtain ⟨k, rfl⟩ := Int.eq_ofNat_of_zero_le hs.1
    have hk : k < 4 := by omega
    have cE := h.atE hk
    have cU := h.atU hk
    by_cases he : ep < 1
    · go_enter Try.func21, Try.ntmps21
      go_wp2_with fail
      refine (there_yes _ hs _).mono ?_
      rintro e w1 ⟨rfl, rfl⟩
      go_wp2_with fail
      go_end0
      have e1 : rrelU E U k ep = U := by unfold rrelU; rw [if_neg (by omega)]
      rw [e1]
      exact ⟨rfl, h, by (repeat (first | with_reducible apply only_drew | with_reducible refine only_setCell ?_ (by first | exact Or.inl rfl | (right; simp; done) | (right; simp; omega) | (right; omega)) _ | with_reducible refine only_alloc ?_ _ | with_reducible exact World.grownBy.refl _ _ | with_reducible assumption))⟩
    have he' : 1 ≤ ep := by omega
    by_cases hc : E k = ep
    · have e1 : rrelU E U k ep = upN U k (-4611686018427387904) := by unfold rrelU; rw [if_pos (by simp [hc]; omega)]
      rw [e1]
      clear e1 he
      subst hc
      go_enter Try.func21, Try.ntmps21
      go_wp2_with fail
      refine (there_yes _ hs _).mono ?_
      rintro e w1 ⟨rfl, rfl⟩
      go_wp2_with fail
      go_end0
      exact ⟨rfl, RB.setU h hk _, by (repeat (first | with_reducible apply only_drew | with_reducible refine only_setCell ?_ (by first | exact Or.inl rfl | (right; simp; done) | (right; simp; omega) | (right; omega)) _ | with_reducible refine only_alloc ?_ _ | with_reducible exact World.grownBy.refl _ _ | with_reducible assumption))⟩
    · have e1 : rrelU E U k ep = U := by unfold rrelU; rw [if_neg (by simp; omega)]
      rw [e1]
      clear e1 he
      have hc' : (E k == ep) = false := by simpa using hc
      go_enter Try.func21, Try.ntmps21
      go_wp2_with fail
      refine (there_yes _ hs _).mono ?_
      rintro e w1 ⟨rfl, rfl⟩
      go_wp2_with fail
      go_end0
      exact ⟨rfl, h, by (repeat (first | with_reducible apply only_drew | with_reducible refine only_setCell ?_ (by first | exact Or.inl rfl | (right; simp; done) | (right; simp; omega) | (right; omega)) _ | with_reducible refine only_alloc ?_ _ | with_reducible exact World.grownBy.refl _ _ | with_reducible assumption))⟩
  · have e1 : rrelU E U s ep = U := by simp [rrelU, hs]
    rw [e1]
    clear e1
    go_enter Try.func21, Try.ntmps21
    go_wp2_with fail
    refine (there_no _ hs _).mono ?_
    rintro e w1 ⟨rfl, rfl⟩
    go_wp2_with fail
    go_end0
    exact ⟨rfl, h, by (repeat (first | with_reducible apply only_drew | with_reducible refine only_setCell ?_ (by first | exact Or.inl rfl | (right; simp; done) | (right; simp; omega) | (right; omega)) _ | with_reducible refine only_alloc ?_ _ | with_reducible exact World.grownBy.refl _ _ | with_reducible assumption))⟩
end Go.Proofs.Ytigkfekidmjpbaa
