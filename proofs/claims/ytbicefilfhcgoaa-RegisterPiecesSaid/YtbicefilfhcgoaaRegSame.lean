/-
  The walk over chapter 15's 'SameRegister', and 'great'.
-/
import Derived.Test.YtbicefilfhcgoaaRegMay
set_option linter.unusedSimpArgs false
set_option linter.unusedVariables false
set_option maxRecDepth 100000
namespace Go.Proofs.Ytbicefilfhcgoaa
open Go Go.RowKit Go.Sq Go.Wd Go.Arch

set_option maxHeartbeats 4000000 in
theorem samereg_any (r q : RegS) (sl sq : SlcE) (w : World) (hl : LogAt w w.heap.size sl r.log) (hq : LogAt w w.heap.size sq q.log) (he : r = q) :
    Calls Try.prog 21 #[.agg (rgv r sl).toArray, .agg (rgv q sq).toArray] w fun e w' => e = .returned (.bool true) ∧ Below w.heap.size w w' := by
  subst he
  obtain ⟨A, n, c⟩ := sl
  obtain ⟨B, m, d⟩ := sq
  obtain rfl : n = r.log.length := hl.1
  obtain rfl : m = r.log.length := hq.1
  have hle : r.log.length ≤ 9223372036854775807 := Nat.le_trans hl.2.1 hl.2.2.1
  have hz : Below w.heap.size w ((w.alloc (.cells (rgv r (A, r.log.length, c)).toArray 24)).alloc (.cells (rgv r (B, r.log.length, d)).toArray 24)) := ((Below.refl _ _).alloc (Nat.le_refl _) _).alloc (by simp) _
  have hs := same_any r.log r.log A B c d _ (hl.keep hz).2.2.2 (hq.keep hz).2.2.2 hle hle
  have HH := Lib.hid (And.intro hz hs)
  clear hz hs hl hq
  unfold rgv at HH ⊢
  go_enter Try.func21, Try.ntmps21
  go_wp2_with fail
  refine HH.out.2.mono ?_
  rintro e w1 ⟨rfl, hb⟩
  have hw1 := below_trans HH.out.1 hb HH.out.1.size
  clear hb HH
  go_wp2_with fail
  go_ret
  exact ⟨by simp, hw1⟩
end Go.Proofs.Ytbicefilfhcgoaa
