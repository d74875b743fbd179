/-
  The walk over the statement FeedsTell.
-/
import Derived.Test.YtifeokabecgimaaFeedLives
set_option linter.unusedSimpArgs false
set_option linter.unusedVariables false
set_option maxRecDepth 100000
namespace Go.Proofs.Ytifeokabecgimaa
open Go Go.RowKit Go.Sq Go.Wd Go.Arch

set_option maxHeartbeats 4000000 in
theorem feedsTell_walk (feed : List Spt) (A : Option Addr) (c : Nat) (os : List Ord) (Ao : Option Addr) (co : Nat) (w : World) (hf : Gr.Sl spotE w w.heap.size A feed) (hfl : feed.length ≤ 9223372036854775807) (ho : Gr.Sl ordE w w.heap.size Ao os) (hol : os.length ≤ 9223372036854775807) (hwf : ∀ o ∈ os, (Lit.int .i64 o.id).wf = true) :
    Calls Try.prog 10 #[.slice A feed.length c, .agg #[.slice Ao os.length co]] w fun e w' => e = .returned (.bool true) ∧ Below w.heap.size w w' := by
  have hz : Below w.heap.size w (w.alloc (.cells #[.slice Ao os.length co] 55)) := (Below.refl _ _).alloc (Nat.le_refl _) _
  have BL := Blk.new w 55 [.slice Ao os.length co]
  have H := Lib.hid (And.intro hz (And.intro BL (And.intro (hf.keep hz) (And.intro (ho.keep hz) hwf))))
  clear hz BL hf ho hwf
  by_cases hout : 100 < feed.length ∨ 60 < os.length
  case pos =>
    have hcc : (100 : Int) < (feed.length : Int) ∨ (¬ (100 : Int) < (feed.length : Int) ∧ (60 : Int) < (os.length : Int)) := by omega
    clear hout
    rcases hcc with h1 | ⟨h1, h2⟩
    all_goals
      go_enter Try.func10, Try.ntmps10
      go_wp2_with fail
      refine (lives_any _).mono ?_
      rintro r w1 ⟨rfl, hb⟩
      have hB := below_trans H.out.1 hb H.out.1.size
      go_wp2_with fail
      go_ret
      exact ⟨rfl, hB⟩
  have h100 : ¬ (100 : Int) < (feed.length : Int) := by omega
  have h60 : ¬ (60 : Int) < (os.length : Int) := by omega
  have hf100 : feed.length ≤ 100 := by omega
  have ho60 : os.length ≤ 60 := by omega
  clear hout
  go_enter Try.func10, Try.ntmps10
  go_wp2_with fail
  generalize (w.alloc (.cells #[.slice Ao os.length co] 55)) = w1 at H ⊢
  refine (logsOf_any os Ao co w1 H.out.2.2.2.1 (by omega)).mono ?_
  rintro e w2 ⟨As, cs, rfl, hL2, hb2⟩
  have H2 := Lib.hid (And.intro hL2 (And.intro hb2 (H.out.2.2.1.keep hb2)))
  clear hL2 hb2
  go_wp2_with fail
  refine (items_any (logsO os) As cs feed A c w2 H2.out.1 (fun i _ => logsO_wf H.out.2.2.2.2 i) H2.out.2.2 (by omega)).mono ?_
  rintro e w3 hP
  have hw3 : ∀ w', Below w2.heap.size w2 w' → Below w1.heap.size w1 w' := fun w' hb => below_trans H2.out.2.1 hb H2.out.2.1.size
  rcases hP with ⟨hv, rfl, hb3⟩ | ⟨l, v, hv, rfl, hI3, hb3⟩
  case' inl =>
    have hB3 := hw3 _ hb3
    have HV := Lib.hid hv
    have B3 := H.out.2.1.keep hB3
    have x0 := B3.cell 0
    simp only [List.getElem?_cons_zero] at x0
    clear hw3 hb3 H2 hv
    go_wp2_with fail
    refine (logsOf_any os Ao co w3 (H.out.2.2.2.1.keep hB3) (by omega)).mono ?_
    rintro e w4 ⟨As', cs', rfl, hL4, hb4⟩
    have hB4 := below_trans hB3 hb4 hB3.size
    go_wp2_with fail
    refine (ritems_any (logsO os) As' cs' feed A c w4 hL4 (H.out.2.2.1.keep hB4) (by omega)).mono ?_
    rintro e w5 (⟨hv', rfl, hb5⟩ | ⟨l', v', hv', _⟩)
    case' inr => rw [HV.out] at hv'; cases hv'
    have hB5 := below_trans hB4 hb5 hB4.size
    clear hv' hb5 hb4 hL4 hB4 hB3 B3 x0
    go_wp2_with fail
    refine (sameitems_any [] none none 0 0 w5 ItsR.nil ItsR.nil (by simp)).mono ?_
    rintro r w6 ⟨rfl, hb6⟩
    have hB6 := below_trans hB5 hb6 hB5.size
    clear hb6 hB5
    go_wp2_with fail
    refine (lives_any _).mono ?_
    rintro r w7 ⟨rfl, hb7⟩
    have hB := below_trans H.out.1 (below_trans hB6 hb7 hB6.size) H.out.1.size
    go_wp2_with fail
    go_ret
    exact ⟨rfl, hB⟩
  case' inr =>
    have hB3 := hw3 _ hb3
    have HV := Lib.hid hv
    have B3 := H.out.2.1.keep hB3
    have x0 := B3.cell 0
    simp only [List.getElem?_cons_zero] at x0
    obtain ⟨A3, c3, rfl, k3, k3', hr3⟩ := hI3.form
    have HR3 := Lib.hid hr3
    have hll : l.length ≤ 9223372036854775807 := by omega
    clear hw3 hb3 H2 hv hI3 hr3
    go_wp2_with fail
    refine (logsOf_any os Ao co w3 (H.out.2.2.2.1.keep hB3) (by omega)).mono ?_
    rintro e w4 ⟨As', cs', rfl, hL4, hb4⟩
    have hB4 := below_trans hB3 hb4 hB3.size
    go_wp2_with fail
    refine (ritems_any (logsO os) As' cs' feed A c w4 hL4 (H.out.2.2.1.keep hB4) (by omega)).mono ?_
    rintro e w5 (⟨hv', _⟩ | ⟨l', v', hv', rfl, hI5, hb5⟩)
    case' inl => rw [HV.out] at hv'; cases hv'
    obtain rfl : l = l' := by
      have := HV.out.symm.trans hv'
      exact Option.some.inj this
    obtain ⟨A5, c5, rfl, k5, k5', hr5⟩ := hI5.form
    have hB5 := below_trans hB4 hb5 hB4.size
    have HR5 := Lib.hid (And.intro ((HR3.out.keep hb4).keep hb5) hr5)
    clear hv' hb5 hb4 hL4 hB4 hB3 B3 x0 hI5 hr5 HR3
    go_wp2_with fail
    refine (sameitems_any l A3 A5 c3 c5 w5 HR5.out.1 HR5.out.2 hll).mono ?_
    rintro r w6 ⟨rfl, hb6⟩
    have hB6 := below_trans hB5 hb6 hB5.size
    clear hb6 hB5
    go_wp2_with fail
    refine (lives_any _).mono ?_
    rintro r w7 ⟨rfl, hb7⟩
    have hB := below_trans H.out.1 (below_trans hB6 hb7 hB6.size) H.out.1.size
    go_wp2_with fail
    go_ret
    exact ⟨rfl, hB⟩
end Go.Proofs.Ytifeokabecgimaa
