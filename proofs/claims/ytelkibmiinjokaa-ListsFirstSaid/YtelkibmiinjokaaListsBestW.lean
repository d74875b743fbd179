/-
  The walk over the statement 'ListsBest'.
-/
import Derived.Test.YtelkibmiinjokaaWorks14
import Derived.Test.YtelkibmiinjokaaRegs2
set_option linter.unusedSimpArgs false
set_option linter.unusedVariables false
set_option maxRecDepth 100000
namespace Go.Proofs.Ytelkibmiinjokaa
open Go.RowKit Go.Sq Go.Wd

theorem Regs.more {w : World} {B B' : Nat} {A : Option Addr} {l : List RegV} (h : Regs w B A l) (hB : B ≤ B') : Regs w B' A l := fun hl => by
  obtain ⟨b, off, ha, hb, hc⟩ := h hl
  exact ⟨b, off, ha, by omega, hc⟩

set_option maxHeartbeats 2000000 in
theorem listsBest_walk (l : List RegV) (A : Option Addr) (c : Nat) (w : World) (ha : Regs w w.heap.size A l) (hl : l.length ≤ 9223372036854775807) :
    Calls Try.prog 4 #[.slice A l.length c] w fun e w' => e = .returned (.bool true) ∧ Below w.heap.size w w' := by
  have hw := Below.refl w.heap.size w
  have EA : ∀ {w' : World}, Below w.heap.size w w' → Regs w' w'.heap.size A l := fun h => (ha.below h).more h.size
  clear ha
  by_cases h1 : 200 < l.length
  · go_enter Try.func4, Try.ntmps4
    go_wp2_with fail
    go_ret
    exact ⟨rfl, hw⟩
  have l1 : l.length ≤ 200 := by omega
  go_enter Try.func4, Try.ntmps4
  go_wp2_with fail
  refine (best_any l A c _ (EA hw) l1).mono ?_
  rintro e w1 ⟨rfl, hb⟩
  have hw1 := below_trans hw hb hw.size
  clear hb
  go_wp2_with fail
  refine (rbest_any l A c _ (EA hw1) l1).mono ?_
  rintro e w2 ⟨rfl, hb⟩
  have hw2 := below_trans hw1 hb hw1.size
  clear hb
  generalize bestL (l.map rankOf) = q
  go_wp2_with fail
  refine (works_any _).mono ?_
  rintro e wz ⟨rfl, hb⟩
  go_wp2_with fail
  go_ret
  exact ⟨rfl, below_trans hw2 hb hw2.size⟩
end Go.Proofs.Ytelkibmiinjokaa
