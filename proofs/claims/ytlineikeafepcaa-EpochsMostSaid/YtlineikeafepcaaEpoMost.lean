/-
  The walk over epochs.Most: the library's Clone and Sort by their contracts.
-/
import Derived.Test.YtlineikeafepcaaEpo
import Derived.Test.YtlineikeafepcaaOpenNums
import Derived.Test.YtlineikeafepcaaShelf
import Derived.Lib.OwnBridge
import Derived.Sort.Grow
import Derived.Sort.OwnSortedInts
set_option linter.unusedSimpArgs false
set_option linter.unusedVariables false
set_option maxRecDepth 100000
namespace Go.Proofs.Ytlineikeafepcaa
open Go Go.RowKit Go.Sq Go.Wd Go.Sort

def sortE (l : List Int) : List Int := l.mergeSort fun x y => decide (x ≤ y)
def mostOk (l : List Int) (n : Int) : Prop := sitesE n = true ∧ (l.length : Int) ≤ n ∧ majE n ≤ l.length
instance (l : List Int) (n : Int) : Decidable (mostOk l n) := by unfold mostOk; infer_instance
def mostE (l : List Int) (n : Int) : Int × Bool := if mostOk l n then ((sortE l).getD (l.length - (majE n).toNat) 0, true) else (0, false)
theorem maj_range {n : Int} (h : sitesE n = true) : 2 ≤ majE n ∧ majE n ≤ n ∧ n ≤ 7 ∧ n < 2 * majE n ∧ 2 * (majE n - 1) ≤ n := by
  unfold majE
  rw [if_pos h]
  rcases sites_cases h with rfl | rfl | rfl | rfl | rfl | rfl <;> omega
theorem maj_zero {n : Int} : majE n = 0 ↔ sitesE n = false := by
  constructor
  · intro h
    cases hs : sitesE n
    · rfl
    · have := (maj_range hs).1; omega
  · intro h; unfold majE; rw [if_neg (by rw [h]; simp)]
theorem cell_holds {w : World} {g : Nat} {S : List Int} (h : Holds (Value.int .i64) w g 0 S.toArray) (j : Nat) (hj : j < S.length) : w.cell? ⟨g, j, none⟩ = some (.int .i64 (S.getD j 0)) := by
  have h1 := (h j (by simpa using hj)).1
  rw [Nat.zero_add] at h1
  rw [h1, getElem!_pos _ j (by simpa using hj)]
  simp [List.getD, List.getElem?_eq_getElem hj]
theorem ret_most {a a' : Int} {b b' : Bool} (h1 : a = a') (h2 : b = b') : Ending.returned (.tuple #[.int .i64 a, .bool b]) = .returned (.tuple #[.int .i64 a', .bool b']) := by rw [h1, h2]

set_option maxHeartbeats 2000000 in
theorem most_any (l : List Int) (A : Option Addr) (c : Nat) (n : Int) (w : World) (hl : Nums w w.heap.size A .i64 l) (hll : l.length ≤ 9223372036854775807) :
    Calls Try.prog 35 #[.slice A l.length c, .int .i64 n] w fun e w' => e = .returned (.tuple #[.int .i64 (mostE l n).1, .bool (mostE l n).2]) ∧ Below w.heap.size w w' := by
  have hw := Below.refl w.heap.size w
  by_cases h0 : majE n = 0
  · have h0b : (majE n == 0) = true := by rw [beq_iff_eq]; exact h0
    have hN := Lib.hid (show mostE l n = (0, false) from if_neg (fun h => by have := (maj_range h.1).1; omega))
    clear hl h0
    go_enter Try.func35, Try.ntmps35
    go_wp2_with fail
    refine (maj_any n w).mono ?_
    rintro e w1 ⟨rfl, rfl⟩
    go_wp2_with fail
    go_ret2
    rw [hN.out]
    exact ⟨rfl, hw⟩
  have h0b : (majE n == 0) = false := by rw [beq_eq_false_iff_ne]; exact h0
  have hs : sitesE n = true := by
    cases hs : sitesE n
    · exact absurd (maj_zero.2 hs) h0
    · rfl
  by_cases h1 : n < (l.length : Int)
  · have hN := Lib.hid (show mostE l n = (0, false) from if_neg (fun h => by have := h.2.1; omega))
    clear hl h0 hs
    go_enter Try.func35, Try.ntmps35
    go_wp2_with fail
    refine (maj_any n w).mono ?_
    rintro e w1 ⟨rfl, rfl⟩
    go_wp2_with fail
    go_ret2
    rw [hN.out]
    exact ⟨rfl, hw⟩
  by_cases h2 : (l.length : Int) < majE n
  · have hN := Lib.hid (show mostE l n = (0, false) from if_neg (fun h => by have := h.2.2; omega))
    clear hl h0 hs
    go_enter Try.func35, Try.ntmps35
    go_wp2_with fail
    refine (maj_any n w).mono ?_
    rintro e w1 ⟨rfl, rfl⟩
    go_wp2_with fail
    go_ret2
    rw [hN.out]
    exact ⟨rfl, hw⟩
  have hr := maj_range hs
  have hN := Lib.hid (show mostE l n = ((sortE l).getD (l.length - (majE n).toNat) 0, true) from if_pos ⟨hs, by omega, by omega⟩)
  obtain ⟨k, hk⟩ := Int.eq_ofNat_of_zero_le (show 0 ≤ majE n by omega)
  have hc := maj_any n w
  rw [hk] at hc h0b h2 hr hN
  have HC := Lib.hid hc
  have hlen : 0 < l.length := by omega
  have hl7 : l.length ≤ 7 := by omega
  obtain ⟨b, off, hA, hb, hcells⟩ := hl hlen
  subst hA
  have hclone := sh_slices_Clone_int b off l.length c l w (Nat.le_refl _) (by omega) (fun j hj => by
    rw [hcells j _ (List.getElem?_eq_getElem hj)]
    simp [List.getD, List.getElem?_eq_getElem hj])
  have HCL := Lib.hid hclone
  clear hc hclone hcells h0 hk hs hl
  have hkl : k ≤ l.length := by omega
  go_enter Try.func35, Try.ntmps35
  go_wp2_with fail
  refine HC.out.mono ?_
  rintro e w1 ⟨rfl, rfl⟩
  go_wp2_with fail
  refine HCL.out.mono ?_
  rintro e w2 ⟨v1, rfl, hown, hnn, hbel⟩
  rw [List.take_length] at hown
  obtain ⟨g, cap, rfl, hbg, hgl, hncap, hcm, _, hH⟩ := Lib.holds_of_ownsRow hown hnn
  have hsort := sh_slices_Sort_int g 0 cap l w2 hH hgl (by omega)
  have HS := Lib.hid hsort
  have X := Lib.hid (And.intro hbel (And.intro hbg (And.intro hgl hH)))
  clear hown hnn hbel hH hsort HC HCL
  go_wp2_with fail
  refine HS.out.mono ?_
  rintro e w3 ⟨rfl, nn, os, hw3⟩
  have hH3 : Holds (Value.int .i64) w3 g 0 (sortE l).toArray := by
    subst hw3
    exact holds_grow _ _ os g 0 _ (by simpa [putRow, mapBlock, Sort.ahead] using X.out.2.2.1) (holds_putRow _ _ g 0 _ _ (holds_ahead _ w2 nn g 0 _ X.out.2.2.2) (by simp))
  have hB3 : Below w1.heap.size w1 w3 := by
    subst hw3
    exact X.out.1.grown (grownBy_sortedI _) X.out.1.size (fun j hj => by cases hj; exact X.out.2.1)
  obtain ⟨S, hS⟩ : ∃ S : List Int, S = sortE l := ⟨_, rfl⟩
  rw [← hS] at hH3 hN
  have hSl : S.length = l.length := by rw [hS]; exact List.length_mergeSort l
  have hi : l.length - k < S.length := by omega
  have cS := cell_holds hH3 _ hi
  have wk : wrap64 ((l.length : Int) - (k : Int)) = ((l.length - k : Nat) : Int) := by unfold wrap64; omega
  have wk2 : IntKind.i64.wrap ((l.length : Int) - (k : Int)) = ((l.length - k : Nat) : Int) := by rw [IntWalk.i64_in _ (by omega)]; omega
  have Y := Lib.hid (And.intro hB3 hN)
  clear hH3 hB3 hS hw3 HS X hN
  go_wp2_with fail
  trace_state
  go_ret2
  rw [Y.out.2.out]
  exact ⟨rfl, Y.out.1⟩
end Go.Proofs.Ytlineikeafepcaa
