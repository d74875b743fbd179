/-
  The walk over the statement 'FoldsEpochs'.
-/
import Derived.Test.YtifeokabecgimaaWorks13
import Derived.Test.YtifeokabecgimaaCopy
import Derived.Test.YtifeokabecgimaaOpenNums
import Derived.Test.YtifeokabecgimaaFoldSame
import Derived.Test.YtifeokabecgimaaFoldLaws2
set_option linter.unusedSimpArgs false
set_option linter.unusedVariables false
set_option maxRecDepth 100000
namespace Go.Proofs.Ytifeokabecgimaa
open Go Go.RowKit Go.Sq Go.Wd Go.Arch

set_option maxHeartbeats 4000000 in
theorem foldsEpochs_walk (l : List Ent) (A : Option Addr) (c : Nat) (es : List Int) (Ae : Option Addr) (ce : Nat) (w : World) (ha : Ents w w.heap.size A l) (hl : l.length ≤ 9223372036854775807)
    (he : Nums w w.heap.size Ae .i64 es) (hle : es.length ≤ 9223372036854775807) (hwf : ∀ e ∈ l, wfEnt e) :
    Calls Try.prog 8 #[.slice A l.length c, .slice Ae es.length ce] w fun e w' => e = .returned (.bool true) ∧ Below w.heap.size w w' := by
  have hw := Below.refl w.heap.size w
  by_cases h1 : 300 < l.length
  · clear ha hwf he
    go_enter Try.func8, Try.ntmps8
    go_wp2_with fail
    go_ret
    exact ⟨rfl, hw⟩
  have l1 : l.length ≤ 300 := by omega
  clear h1
  obtain ⟨v1, w1, hrun, hrow, hb1⟩ := copy_run l A c w ha (by omega)
  obtain ⟨A1, c1, rfl, hc1, hc2, _⟩ := hrow.form
  have EA : ∀ {w' : World}, Below w.heap.size w w' → Ents w' w'.heap.size A l := fun h => (ha.below h).more h.size
  have HE := Lib.hid he
  have HW := Lib.hid hwf
  clear ha hwf he
  have hlen : (foldS l).2.length = l.length := fold_len l l.length (Nat.le_refl _)
  go_enter Try.func8, Try.ntmps8
  go_wp2_with (at_builtin; refine wpList_app rfl (by rfl) (by rfl) (by rfl) hrun ?_)
  clear hrun
  go_loopg [6] l.length (fun q i wr => ∃ (j : Nat) (m : List Ent), q = l.length - j ∧ j ≤ l.length ∧ i = .int .i64 j ∧ Below w.heap.size w wr ∧ Row wr w.heap.size (.slice A1 l.length c1) m ∧ Hid (m.map (·.2) = l.map (·.2)))
  case atStart => exact ⟨0, l, rfl, by omega, rfl, hb1, hrow, Lib.hid rfl⟩
  case round =>
    clear hb1 hrow
    obtain ⟨j, m, hk, hj, rfl, hB, hR, hm⟩ := hrel
    have AA : Aside (gk = l.length - j) := hk
    clear hk
    have hml : m.length = l.length := by simpa using congrArg List.length hm.out
    by_cases hlt : j < l.length ∧ j < es.length
    · obtain ⟨hlt1, hlt2⟩ := hlt
      obtain ⟨b2, o2, x, rfl, _, FE⟩ := HE.out.at_ hlt2
      have x0 := FE _ hB
      have hy := List.getElem?_eq_getElem (show j < m.length by omega)
      generalize m[j]'(show j < m.length by omega) = y at hy
      obtain ⟨g, c', hv, hBg, hg, hent, hfz⟩ := hR.at_ hy
      rw [hml] at hv
      cases hv
      have hR2 := hR.epoch hy x
      have hf0 := hfz (j * 6)
      have HZ := Lib.hid (And.intro hR2 (And.intro hB (And.intro hy (And.intro hml hBg))))
      obtain ⟨y0, _⟩ := hent
      clear hR hR2 hB hy hml hBg FE hfz
      go_wp2_with fail
      go_roundg (l.length - (j + 1))
      case measure => have hkk := AA.out; omega
      case rel =>
        refine ⟨j + 1, m.set j (x, y.2), rfl, by omega, by go_num, ?_, HZ.out.1, Lib.hid ?_⟩
        · exact HZ.out.2.1.setCell HZ.out.2.2.2.2 _
        · rw [← hm.out, List.map_set]
          refine List.ext_getElem? fun k => ?_
          rw [List.getElem?_set]
          split
          · rename_i hjk
            subst hjk
            rw [List.getElem?_map, HZ.out.2.2.1]
            split
            · rfl
            · rename_i h; simp at h; have := HZ.out.2.2.2.1; omega
          · rfl
    · have hR' := hR.form
      rw [hml] at hR'
      obtain ⟨A2, c2, hv, _, _, hEm⟩ := hR'
      cases hv
      have hstop : ¬ (j < l.length ∧ j < es.length) := hlt
      have hfm : foldS m = foldS l := foldS_same hm.out
      have hm1 : ∀ e ∈ m, (Lit.int .i64 e.2.1).wf = true := fun e hem => by
        have h1 : e.2 ∈ m.map (·.2) := List.mem_map_of_mem hem
        rw [hm.out] at h1
        obtain ⟨f, hf, h2⟩ := List.mem_map.1 h1
        rw [← h2]
        exact (HW.out f hf).2.1
      have hOf : ∀ W, Row W w.heap.size (.slice A1 l.length c1) m → Calls Try.prog 15 #[.slice A1 l.length c1] W fun e w' => ∃ v, e = .returned (.tuple #[.agg (stv (foldS l).1).toArray, v]) ∧ Outs w' (W.heap.size + 2) v (foldS l).2 ∧ Below W.heap.size W w' := by
        intro W hRW
        have hRf := hRW.form
        rw [hml] at hRf
        obtain ⟨A3, c3, hv, _, _, hE3⟩ := hRf
        cases hv
        have h := of_any m A1 c1 W hE3 (by omega) hm1
        rw [hml, hfm] at h
        exact h
      clear hfm hml hm1 hlt hEm
      have hcond : ((decide ((j : Int) < (l.length : Int)) && decide ((j : Int) < (es.length : Int)))) = false := by
        simp only [Bool.and_eq_false_iff, decide_eq_false_iff_not]
        omega
      by_cases hj2 : j < l.length
      case' pos => have hj3 : ¬ j < es.length := fun h => hstop ⟨hj2, h⟩
      all_goals
        clear hstop hcond
        go_wp2_with fail
        refine (of_any l A c _ (EA hB) (by omega) (fun e he => (HW.out e he).2.1)).mono ?_
        rintro e w2 ⟨v2, rfl, hO, hb⟩
        have hB2 := below_trans hB hb hB.size
        have R1 := hO.toR
        have hR2 := hR.keep hb
        have hzz := hb.size
        clear hO hb hB
        generalize foldS l = fl at hOf R1 ⊢
        obtain ⟨s, outs⟩ := fl
        dsimp only at hOf R1 ⊢
        simp only [stv] at hOf ⊢
        have hbS : Below w2.heap.size w2 (w2.alloc (.cells (stv s).toArray 25)) := (Below.refl _ _).alloc (Nat.le_refl _) _
        simp only [stv] at hbS
        have hBS := below_trans hB2 hbS hB2.size
        have hR3 := hR2.keep hbS
        have R3 := R1.keep hbS
        have BS := Blk.new w2 25 (stv s)
        simp only [stv] at BS
        clear R1 hR2 hbS hR
        go_wp2_with fail
        refine (hOf _ hR3).mono ?_
        rintro e w3 ⟨v3, rfl, hO, hb⟩
        have R4 := hO.toR
        have hB4 := below_trans hBS hb hBS.size
        have R5 := R3.keep hb
        have BS2 := BS.keep hb
        have s0 := BS2.cell 0
        have s1 := BS2.cell 1
        have s2 := BS2.cell 2
        have s3 := BS2.cell 3
        simp at s0 s1 s2 s3
        have hs2 := BS2.lt
        clear hO hb hBS hOf R3 BS BS2
        have hbS : Below w3.heap.size w3 (w3.alloc (.cells (stv s).toArray 25)) := (Below.refl _ _).alloc (Nat.le_refl _) _
        simp only [stv] at hbS
        have hBS := below_trans hB4 hbS hB4.size
        have R6 := R4.keep hbS
        have R7 := R5.keep hbS
        clear hbS R4 R5
        have ne1 : ¬ w2.heap.size = w3.heap.size := by omega
        go_wp2_with fail
        refine (same_outs outs _ _ _ R7 R6).mono ?_
        rintro e w4 ⟨rfl, hb⟩
        have hB5 := below_trans hBS hb hBS.size
        clear hb
        go_wp2_with fail
        refine (works_any _).mono ?_
        rintro e wz ⟨rfl, hb⟩
        go_wp2_with fail
        go_ret
        exact ⟨rfl, below_trans hB5 hb hB5.size⟩
end Go.Proofs.Ytifeokabecgimaa
