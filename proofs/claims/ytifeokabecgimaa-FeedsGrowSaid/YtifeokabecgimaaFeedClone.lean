/-
  The walks over slices.Clone of events and of items, and over a page.
-/
import Derived.Test.YtifeokabecgimaaFeedSpec
import Derived.Test.YtifeokabecgimaaSeqP
set_option linter.unusedSimpArgs false
set_option linter.unusedVariables false
set_option maxRecDepth 100000
namespace Go.Proofs.Ytifeokabecgimaa
open Go Go.RowKit Go.Sq Go.Wd Go.Arch

theorem eql_nilT {t e : TypeId} (ht : Try.prog.underlying t = some (.slice e)) (A : Option Addr) (n c : Nat) (w : World) : (binOp .eql t (.slice A n c) (.slice none 0 0)).run Try.prog w = .ok (.bool A.isNone) w := by
  have h : (Op.equalIn (9999 + 1) t (.slice A n c) (.slice none 0 0)).run Try.prog w = .ok A.isNone w := by
    rw [Op.equalIn]
    cases A <;> simp [run_underlying ht]
  have h2 : Op.equal t (.slice A n c) (.slice none 0 0) = Op.equalIn (9999 + 1) t (.slice A n c) (.slice none 0 0) := rfl
  simp [binOp, h2, h]

set_option maxHeartbeats 2000000 in
theorem clone_ev (sl : Sl) (evs : List (Int × Int)) (own : Option Nat) (w : World) (h : EvC w own sl evs) :
    Calls Try.prog 41 #[.slice sl.1 sl.2.1 sl.2.2] w fun e w' => ∃ sl' : Sl, e = .returned (.slice sl'.1 sl'.2.1 sl'.2.2) ∧ EvC w' none sl' evs ∧ Below w.heap.size w w' ∧ (∀ g, sl'.1 = some ⟨g, 0, none⟩ → w.heap.size ≤ g) := by
  have hw := Below.refl w.heap.size w
  rcases h with ⟨rfl, rfl⟩ | ⟨g, c, k, a, rfl, rfl, h1, h2, h3, _, h5, h6⟩
  · have hq := eql_nilT Try.underlying31 none 0 0 w
    go_enter Try.func41, Try.ntmps41
    go_wp2_with fail
    go_ret
    exact ⟨(none, 0, 0), rfl, .inl ⟨rfl, rfl⟩, hw, fun g h => by cases h⟩
  · have hS : Gr.Sl evE w w.heap.size (some ⟨g, 0, none⟩) [(k, a)] := fun _ => ⟨g, 0, rfl, h3, fun i e he j hj => by
      obtain rfl : i = 0 := by
        have := (List.getElem?_eq_some_iff.1 he).1
        simpa using this
      cases he
      have hj2 : j < 2 := hj
      rw [Nat.zero_mul, Nat.zero_add]
      obtain rfl | rfl : j = 0 ∨ j = 1 := by omega
      · exact h5
      · exact h6⟩
    obtain ⟨v', w', hrun, hR, hb⟩ := Gr.copy_run (R := evE) (some ⟨g, 0, none⟩) c hS (by simp) 31
    have hq := eql_nilT Try.underlying31 (some ⟨g, 0, none⟩) 1 c w
    rcases Gr.Row.where_ hR with ⟨_, h⟩ | ⟨g', c', rfl, q1, q2, q3, q4⟩
    · cases h
    have x0 := Gr.Row.cell hR (i := 0) rfl 0 (by decide)
    have x1 := Gr.Row.cell hR (i := 0) rfl 1 (by decide)
    have HH := Lib.hid (show EvC w' none (some ⟨g', 0, none⟩, 1, c') [(k, a)] ∧ Below w.heap.size w w' from ⟨.inr ⟨g', c', k, a, rfl, rfl, q3, q4, q2, by simp, x0, x1⟩, hb⟩)
    clear hR hS hb x0 x1
    go_enter Try.func41, Try.ntmps41
    go_wp2_with (at_builtin; refine wpList_app rfl (by rfl) (by rfl) (by rfl) hrun ?_)
    go_ret
    exact ⟨(some ⟨g', 0, none⟩, 1, c'), rfl, HH.out.1, HH.out.2, fun g h => by cases h; exact q1⟩

set_option maxHeartbeats 2000000 in
theorem clone_it (l : List IA) (A : Option Addr) (c : Nat) (w : World) (h : ItsR w A l) (hl : l.length ≤ 100000) (hA : A = none → c = 0) :
    Calls Try.prog 43 #[.slice A l.length c] w fun e w' => ∃ v, e = .returned v ∧ Its w' w.heap.size v l ∧ Below w.heap.size w w' := by
  have hw := Below.refl w.heap.size w
  obtain ⟨ps, rfl, hs, he⟩ := h
  rw [List.length_map] at hl ⊢
  cases A with
  | none =>
    have hn : ps = [] := by
      rcases Nat.eq_zero_or_pos ps.length with h0 | h0
      · exact List.eq_nil_of_length_eq_zero h0
      · obtain ⟨b, o, ha, _⟩ := hs h0
        cases ha
    subst hn
    obtain rfl := hA rfl
    have hq := eql_nilT Try.underlying56 none 0 0 w
    go_enter Try.func43, Try.ntmps43
    go_wp2_with fail
    go_ret
    exact ⟨_, rfl, Its.nil _ _, hw⟩
  | some a =>
    obtain ⟨v', w', hrun, hR, hb⟩ := Gr.copy_run (R := itemE) (some a) c hs hl 56
    have HH := Lib.hid (show Its w' w.heap.size v' (ps.map (·.1)) ∧ Below w.heap.size w w' from ⟨⟨ps, rfl, hR, fun p hp => by
      have h1 := (he p hp)
      have hown := hR.lt
      rcases h1 with h | ⟨g, c, k, a, h1, h2, h3, h4, h5, h6, h7, h8⟩
      · exact .inl h
      · exact .inr ⟨g, c, k, a, h1, h2, h3, h4, Nat.lt_of_lt_of_le h5 hb.size, fun e => by have := (hown g e.symm).1; omega, (hb.cell (p := ⟨g, 0, none⟩) h5).trans h7, (hb.cell (p := ⟨g, 1, none⟩) h5).trans h8⟩⟩, hb⟩)
    have hq := eql_nilT Try.underlying56 (some a) ps.length c w
    clear hR hb he hs hA
    go_enter Try.func43, Try.ntmps43
    go_wp2_with (at_builtin; refine wpList_app rfl (by rfl) (by rfl) (by rfl) hrun ?_)
    go_ret
    exact ⟨_, rfl, HH.out⟩
end Go.Proofs.Ytifeokabecgimaa
