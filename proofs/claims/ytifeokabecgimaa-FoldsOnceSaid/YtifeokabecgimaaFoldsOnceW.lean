/-
  The walk over the statement 'FoldsOnce'.
-/
import Derived.Test.YtifeokabecgimaaFoldsOnceA
import Derived.Test.YtifeokabecgimaaFoldsOnceB
set_option linter.unusedSimpArgs false
set_option linter.unusedVariables false
set_option maxRecDepth 100000
namespace Go.Proofs.Ytifeokabecgimaa
open Go Go.RowKit Go.Sq Go.Wd Go.Arch

theorem tmod_in (a b : Int) (h : 0 < b) : -b < a.tmod b ∧ a.tmod b < b := by
  by_cases h0 : 0 ≤ a
  · rw [Int.tmod_eq_emod_of_nonneg h0]
    have := Int.emod_nonneg a (show b ≠ 0 by omega)
    have := Int.emod_lt_of_pos a h
    omega
  · have h1 : a.tmod b = -((-a).tmod b) := by rw [Int.neg_tmod, Int.neg_neg]
    rw [h1, Int.tmod_eq_emod_of_nonneg (show 0 ≤ -a by omega)]
    have := Int.emod_nonneg (-a) (show b ≠ 0 by omega)
    have := Int.emod_lt_of_pos (-a) h
    omega

set_option maxHeartbeats 8000000 in
theorem foldsOnce_walk (l : List Ent) (A : Option Addr) (c : Nat) (x : Ent) (at_ : Int) (w : World) (ha : Ents w w.heap.size A l) (hl : l.length ≤ 9223372036854775807) (hwf : ∀ e ∈ l, wfEnt e) :
    Calls Try.prog 7 #[.slice A l.length c, .agg #[.int .i64 x.1, .int .i64 x.2.1, .int .i64 x.2.2.1, .int .i64 x.2.2.2.1, .int .i64 x.2.2.2.2.1, .int .i64 x.2.2.2.2.2], .int .i64 at_] w fun e w' => e = .returned (.bool true) ∧ Below w.heap.size w w' := by
  have hw := Below.refl w.heap.size w
  have EA : ∀ {w' : World}, Below w.heap.size w w' → Ents w' w'.heap.size A l := fun h => (ha.below h).more h.size
  have HE := Lib.hid ha
  clear ha
  have hbX : Below w.heap.size w (w.alloc (.cells #[.int .i64 x.1, .int .i64 x.2.1, .int .i64 x.2.2.1, .int .i64 x.2.2.2.1, .int .i64 x.2.2.2.2.1, .int .i64 x.2.2.2.2.2] 45)) := hw.alloc (Nat.le_refl _) _
  by_cases h1 : 300 < l.length
  · have h3 : ¬ l.length = 0 := by omega
    go_enter Try.func7, Try.ntmps7
    go_wp2_with fail
    refine (works_any _).mono ?_
    rintro e wz ⟨rfl, hb⟩
    go_wp2_with fail
    go_ret
    exact ⟨rfl, below_trans hbX hb hbX.size⟩
  have l1 : l.length ≤ 300 := by omega
  clear h1
  by_cases h0 : l.length = 0
  · have h01 : ((l.length : Int) == 0) = true := by simp [h0]
    have h00 : (l.length : Int) = 0 := by omega
    go_enter Try.func7, Try.ntmps7
    go_wp2_with fail
    refine (works_any _).mono ?_
    rintro e wz ⟨rfl, hb⟩
    go_wp2_with fail
    go_ret
    exact ⟨rfl, below_trans hbX hb hbX.size⟩
  have l2 : 0 < l.length := by omega
  clear h0
  have htm := tmod_in at_ l.length (by omega)
  have hkk : ∃ k : Nat, k < l.length ∧ ((0 ≤ at_.tmod l.length ∧ at_.tmod l.length = k) ∨ (at_.tmod l.length < 0 ∧ at_.tmod l.length + l.length = k)) := by
    by_cases h : 0 ≤ at_.tmod l.length
    · exact ⟨(at_.tmod l.length).toNat, by omega, .inl ⟨h, by omega⟩⟩
    · exact ⟨(at_.tmod l.length + l.length).toNat, by omega, .inr ⟨by omega, by omega⟩⟩
  obtain ⟨k, hk, hkc⟩ := hkk
  rcases hkc with ⟨hk1, hk2⟩ | ⟨hk1, hk2⟩
  · exact foldsOnce_a l A c x at_ w HE.out hl hwf l1 l2 k hk htm hk1 hk2
  · exact foldsOnce_b l A c x at_ w HE.out hl hwf l1 l2 k hk htm hk1 hk2
end Go.Proofs.Ytifeokabecgimaa
