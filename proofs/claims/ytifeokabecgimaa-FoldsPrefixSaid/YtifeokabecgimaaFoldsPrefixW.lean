/-
  The walk over the statement 'FoldsPrefix'.
-/
import Derived.Test.YtifeokabecgimaaWorks13
import Derived.Test.YtifeokabecgimaaOpen2
import Derived.Test.YtifeokabecgimaaFoldSame
import Derived.Test.YtifeokabecgimaaFoldLaws
set_option linter.unusedSimpArgs false
set_option linter.unusedVariables false
set_option maxRecDepth 100000
namespace Go.Proofs.Ytifeokabecgimaa
open Go Go.RowKit Go.Sq Go.Wd Go.Arch

theorem of_pre (l : List Ent) (A : Option Addr) (c m : Nat) (w : World) (ha : Ents w w.heap.size A l) (hl : l.length ≤ 2000) (hm : m ≤ l.length) (hwf : ∀ e ∈ l, (Lit.int .i64 e.2.1).wf = true) :
    Calls Try.prog 15 #[.slice A m c] w fun e w' => ∃ v s, e = .returned (.tuple #[.agg (stv s).toArray, v]) ∧ Outs w' (w.heap.size + 2) v ((foldS l).2.take m) ∧ Below w.heap.size w w' := by
  have h := of_any (l.take m) A c w (ha.take m) (by rw [List.length_take]; omega) (fun e he => hwf e (List.mem_of_mem_take he))
  rw [List.length_take, Nat.min_eq_left hm, fold_cut l hm] at h
  refine h.mono ?_
  rintro e w' ⟨v, rfl, h1, h2⟩
  exact ⟨v, _, rfl, h1, h2⟩

set_option maxHeartbeats 4000000 in
theorem foldsPrefix_walk (l : List Ent) (A : Option Addr) (c : Nat) (cut : Int) (w : World) (ha : Ents w w.heap.size A l) (hl : l.length ≤ 9223372036854775807) (hc : l.length ≤ c) (hc2 : c ≤ 9223372036854775807) (hwf : ∀ e ∈ l, wfEnt e) :
    Calls Try.prog 5 #[.slice A l.length c, .int .i64 cut] w fun e w' => e = .returned (.bool true) ∧ Below w.heap.size w w' := by
  have hw := Below.refl w.heap.size w
  have EA : ∀ {w' : World}, Below w.heap.size w w' → Ents w' w'.heap.size A l := fun h => (ha.below h).more h.size
  clear ha
  have HW := Lib.hid hwf
  clear hwf
  by_cases h1 : 300 < l.length
  · go_enter Try.func5, Try.ntmps5
    go_wp2_with fail
    refine (works_any _).mono ?_
    rintro e wz ⟨rfl, hb⟩
    go_wp2_with fail
    go_ret
    exact ⟨rfl, below_trans hw hb hw.size⟩
  by_cases h2 : cut < 0
  · go_enter Try.func5, Try.ntmps5
    go_wp2_with fail
    refine (works_any _).mono ?_
    rintro e wz ⟨rfl, hb⟩
    go_wp2_with fail
    go_ret
    exact ⟨rfl, below_trans hw hb hw.size⟩
  by_cases h3 : (l.length : Int) < cut
  · go_enter Try.func5, Try.ntmps5
    go_wp2_with fail
    refine (works_any _).mono ?_
    rintro e wz ⟨rfl, hb⟩
    go_wp2_with fail
    go_ret
    exact ⟨rfl, below_trans hw hb hw.size⟩
  obtain ⟨m, rfl⟩ := Int.eq_ofNat_of_zero_le (show 0 ≤ cut by omega)
  have hm : m ≤ l.length := by omega
  have l1 : l.length ≤ 300 := by omega
  clear h1 h2 h3
  have hmc : m ≤ c := by omega
  have hlen : (foldS l).2.length = l.length := fold_len l l.length (Nat.le_refl _)
  go_enter Try.func5, Try.ntmps5
  go_wp2_with fail
  refine (of_any l A c _ (EA hw) (by omega) (fun e he => (HW.out e he).2.1)).mono ?_
  rintro e w1 ⟨v, rfl, hO, hw1⟩
  have R1 := hO.toR
  clear hO
  generalize (foldS l).1 = s
  simp only [stv]
  go_wp2_with fail
  refine (of_pre l A c m _ ((EA hw1).keep (Nat.le_refl _) ((Below.refl _ _).alloc (Nat.le_refl _) _) |>.more (by simp)) (by omega) hm (fun e he => (HW.out e he).2.1)).mono ?_
  rintro e w2 ⟨v2, s2, rfl, hO2, hb⟩
  have R2 := hO2.toR
  have hwa := below_trans (hw1.alloc hw1.size (.cells (stv s).toArray 25)) hb (by simp; have := hw1.size; omega)
  have R1 := (R1.keep ((Below.refl _ _).alloc (Nat.le_refl _) (.cells (stv s).toArray 25))).keep hb
  clear hO2 hb hw1
  simp only [stv]
  generalize (foldS l).2 = outs at *
  have R1b := R1
  obtain ⟨A1, c1, rfl, q1, q2, _⟩ := R1b
  have R3 := R1.take (m := m) (by omega)
  have R2b := R2
  obtain ⟨A2, c2, rfl, p1, p2, _⟩ := R2b
  rw [hlen] at R1 q1 ⊢
  have hmc1 : m ≤ c1 := by omega
  have hl2 : (outs.take m).length = m := by rw [List.length_take]; omega
  rw [hl2] at R2 ⊢
  have hnn : ((l.length : Int) == (l.length : Int)) = true := by simp
  go_wp2_with fail
  refine (same_outs (outs.take m) _ _ _ (R2.keep ((Below.refl _ _).alloc (Nat.le_refl _) _)) (R3.keep ((Below.refl _ _).alloc (Nat.le_refl _) _))).mono ?_
  rintro e w3 ⟨rfl, hb⟩
  have hwb := below_trans (hwa.alloc hwa.size (.cells (stv s2).toArray 25)) hb (by simp; have := hwa.size; omega)
  clear hb
  go_wp2_with fail
  refine (works_any _).mono ?_
  rintro e wz ⟨rfl, hb⟩
  go_wp2_with fail
  go_ret
  exact ⟨rfl, below_trans hwb hb hwb.size⟩
end Go.Proofs.Ytifeokabecgimaa
