/-
  A slice of ints, read as a list; the walk over SameInts.
-/
import Derived.Test.YtelkibmiinjokaaLists4
set_option linter.unusedSimpArgs false
set_option linter.unusedVariables false
set_option maxRecDepth 100000
namespace Go.Proofs.Ytelkibmiinjokaa
open Go.RowKit Go.Sq Go.Wd

/-- v is a slice of these ints, below block B. -/
def Ints (w : World) (B : Nat) (v : Value) (l : List Int) : Prop :=
  ∃ A c, v = .slice A l.length c ∧ (0 < l.length → ∃ b off, A = some ⟨b, off, none⟩ ∧ b < B ∧ ∀ i x, l[i]? = some x → w.cell? ⟨b, off + i, none⟩ = some (.int .i64 x))

theorem Ints.below {w w' : World} {B : Nat} {v : Value} {l : List Int} (h : Ints w B v l) (hb : Below B w w') : Ints w' B v l := by
  obtain ⟨A, c, rfl, h⟩ := h
  refine ⟨A, c, rfl, fun hl => ?_⟩
  obtain ⟨b, off, ha, hB, hc⟩ := h hl
  exact ⟨b, off, ha, hB, fun i e he => (hb.cell (p := ⟨b, _, none⟩) hB).trans (hc i e he)⟩
theorem Ints.more {w : World} {B B' : Nat} {v : Value} {l : List Int} (h : Ints w B v l) (hB : B ≤ B') : Ints w B' v l := by
  obtain ⟨A, c, rfl, h⟩ := h
  refine ⟨A, c, rfl, fun hl => ?_⟩
  obtain ⟨b, off, ha, hb, hc⟩ := h hl
  exact ⟨b, off, ha, by omega, hc⟩
theorem Ints.of_own {w : World} {B : Nat} {v : Value} {l : List Int} (h : w.ownsRow B 3 1 v l.length (ints l)) : Ints w w.heap.size v l := by
  rcases h.2 with ⟨rfl, h0⟩ | ⟨g, cap, cur, rfl, hB, hg, _⟩
  · exact ⟨none, 0, by rw [h0], fun hl => absurd hl (by omega)⟩
  · refine ⟨some ⟨g, 0, none⟩, cap, rfl, fun hl => ⟨g, 0, rfl, (Array.getElem?_eq_some_iff.1 hg).1, fun i x hi => ?_⟩⟩
    have hlt := (List.getElem?_eq_some_iff.1 hi).1
    rw [Nat.zero_add, h.cellAt i (by omega)]
    simp [ints, hi]

theorem itake_more {l m : List Int} {j : Nat} {e : Int} (h : l.take j = m.take j) (h1 : l[j]? = some e) (h2 : m[j]? = some e) : l.take (j + 1) = m.take (j + 1) := by
  rw [List.take_add_one, List.take_add_one, h, h1, h2]

set_option maxHeartbeats 1000000 in
theorem sameInts_any (l m : List Int) (v1 v2 : Value) (w : World) (ha : Ints w w.heap.size v1 l) (hb : Ints w w.heap.size v2 m) (hl : l.length ≤ 9223372036854775807) (hm : m.length ≤ 9223372036854775807) :
    Calls Try.prog 27 #[v1, v2] w fun e w' => e = .returned (.bool (decide (l = m))) ∧ Below w.heap.size w w' := by
  have hw : Below w.heap.size w w := Below.refl _ _
  obtain ⟨A, c, rfl, ha⟩ := ha
  obtain ⟨B, d, rfl, hb⟩ := hb
  have H := Lib.hid (And.intro ha hb)
  clear ha hb
  by_cases hlm : l.length = m.length
  · have hmn : (l.length == m.length) = true := by simpa using hlm
    have HLM := Lib.hid hlm
    clear hlm
    have hlm1 : l.length ≤ m.length := by have := HLM.out; omega
    have hlm2 : m.length ≤ l.length := by have := HLM.out; omega
    go_enter Try.func27, Try.ntmps27
    go_wp2_with fail
    go_loopg [5] l.length (fun k i wr => ∃ j : Nat, k = l.length - j ∧ j ≤ l.length ∧ i = .int .i64 j ∧ Below w.heap.size w wr ∧ l.take j = m.take j)
    case atStart => exact ⟨0, rfl, by omega, rfl, hw, by simp⟩
    case round =>
      clear hw
      obtain ⟨j, hk, hj, rfl, hwr, ht⟩ := hrel
      have AA : Aside (gk = l.length - j ∧ l.take j = m.take j) := ⟨hk, ht⟩
      clear hk ht
      by_cases hlt : j < l.length
      · have hjm : j < m.length := by omega
        obtain ⟨b1, o1, rfl, hb1, hc1⟩ := H.out.1 (by omega)
        obtain ⟨b2, o2, rfl, hb2, hc2⟩ := H.out.2 (by omega)
        obtain ⟨x, hx⟩ : ∃ x, l[j]? = some x := ⟨_, List.getElem?_eq_getElem hlt⟩
        obtain ⟨y, hy⟩ : ∃ y, m[j]? = some y := ⟨_, List.getElem?_eq_getElem hjm⟩
        have FA : ∀ w', Below w.heap.size w w' → w'.cell? ⟨b1, o1 + j, none⟩ = some (.int .i64 x) := fun w' h => (h.cell (p := ⟨b1, _, none⟩) hb1).trans (hc1 j x hx)
        have FB : ∀ w', Below w.heap.size w w' → w'.cell? ⟨b2, o2 + j, none⟩ = some (.int .i64 y) := fun w' h => (h.cell (p := ⟨b2, _, none⟩) hb2).trans (hc2 j y hy)
        have HX := Lib.hid hx
        have HY := Lib.hid hy
        clear hx hy hc1 hc2
        go_wp2_with fail
        refine wp_region_p ([(0, true), (1, true), (2, true), (3, true), (4, true), (5, true), (6, true), (7, true), (8, true)]) (fun w' => Below w.heap.size w w') (by kernel_rfl) rfl (by kernel_rfl) (by kernel_rfl) (hwr.drew) rfl ?_
        intro KP RP TP hKP hTP hTP'
        simp only [pick, nth]
        go_wp2_with (first
          | (apply SeqP.skip; rfl; simp only [Act.put, List.setIfInBounds_toArray, List.set_cons_zero, List.set_cons_succ])
          | (apply SeqP.call; rfl; rfl; (intro w2 hw; have hw := hTP _ hw; ((have q0 := FA _ hw; have q1 := FB _ hw)); go_simp; exact ⟨rfl, rfl⟩); (intro w2 hw; have hw := hTP _ hw; ((have q0 := FA _ hw; have q1 := FB _ hw)); (first | fail)); simp only [Act.put, List.setIfInBounds_toArray, List.set_cons_zero, List.set_cons_succ])
          | (apply SeqP.pure; rfl; (intro w2 hw; have hw := hTP _ hw; ((have q0 := FA _ hw; have q1 := FB _ hw)); go_simp; with_reducible rfl); simp only [Act.put, List.setIfInBounds_toArray, List.set_cons_zero, List.set_cons_succ])
          | (apply SeqP.split; rfl; rfl; all_goals (intro hc; simp only [hc]; try simp only [beq_iff_eq, decide_eq_true_eq, beq_eq_false_iff_ne, decide_eq_false_iff_not, bne_iff_ne, ne_eq, Bool.not_eq_true', Bool.not_eq_false', Int.not_le, Int.not_lt, bne_eq_false_iff_eq, Bool.or_eq_true, Bool.and_eq_true, Bool.or_eq_false_iff] at hc)))
        apply SeqP.nil
        refine hKP _ _ (hTP' _ (hwr.drew)) ?_
        clear hKP hTP hTP'
        clear FA FB
        by_cases hxy : x = y
        · have hz : (x != y) = false := by simpa using hxy
          go_wp2_with fail
          go_roundg (l.length - (j + 1))
          case measure => have hkk := AA.out.1; omega
          case rel =>
            subst hxy
            exact ⟨j + 1, rfl, by omega, by go_num, hwr.drew, itake_more AA.out.2 HX.out HY.out⟩
        · have hz : (x != y) = true := by simpa using hxy
          go_wp2_with fail
          go_ret
          refine ⟨ret_bool ?_, hwr.drew⟩
          have : l ≠ m := by
            rintro rfl
            have e := HX.out
            rw [HY.out] at e
            exact hxy (Option.some.inj e).symm
          simp [this]
      · have hjN : j = l.length := by omega
        have heq : l = m := by
          have h := AA.out.2
          rw [hjN, List.take_length, HLM.out, List.take_length] at h
          exact h
        go_wp2_with fail
        go_ret
        exact ⟨ret_bool (by simp [heq]), hwr⟩
  · have hne : (l.length == m.length) = false := by simpa using hlm
    have hlm' : l ≠ m := fun e => hlm (by rw [e])
    go_enter Try.func27, Try.ntmps27
    go_wp2_with fail
    go_ret
    exact ⟨ret_bool (by simp [hlm']), hw⟩
end Go.Proofs.Ytelkibmiinjokaa
