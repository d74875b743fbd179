/-
  A new order comes to what the aggregate decides of it: plain.
-/
import Derived.Test.YtlineikeafepcaaMdlLaw2
set_option linter.unusedSimpArgs false
set_option linter.unusedVariables false
set_option maxRecDepth 100000
namespace Go.Proofs.Ytlineikeafepcaa
open Go.Arch

theorem first_hit (l : List Ent) (a : Int) : ∀ (j k : Nat), firstIn l j a = some k → ∃ e, l[k]? = some e ∧ e.2.1 = a
  | 0, k, h => by simp [firstIn] at h
  | j + 1, k, h => by
    unfold firstIn at h
    cases hf : firstIn l j a with
    | some k' =>
      rw [hf] at h
      cases h
      exact first_hit l a j _ hf
    | none =>
      rw [hf] at h
      dsimp only at h
      split at h
      · rename_i he
        cases h
        cases hl : l[j]? with
        | none => rw [hl] at he; cases he
        | some e =>
          rw [hl] at he
          exact ⟨e, rfl, Option.some.inj he⟩
      · cases h
theorem new_order {M : Logs} {o : Ord} (h0 : (doM M o).2.2 = 0) (hk : ∀ x ∈ ordersM M o.stream, x.id ≠ o.id) :
    ordOk o = true ∧ (doM M o).2.1 = (decS (foldS (M o.stream.toNat)).1 o).2 ∧ (foldS ((doM M o).1 o.stream.toNat)).1 = (decS (foldS (M o.stream.toNat)).1 o).1 ∧ ∀ i, i ≠ o.stream.toNat → (doM M o).1 i = M i := by
  have hd := do_told h0
  have ho := hd.1
  have hr := ordOk_in ho
  have hom : ordersM M o.stream = (M o.stream.toNat).map ordOf := if_pos ⟨hr.2.2.1, by omega⟩
  rw [hom] at hk
  have hf : firstIn (M o.stream.toNat) (M o.stream.toNat).length o.id = none := by
    cases hf : firstIn (M o.stream.toNat) (M o.stream.toNat).length o.id with
    | none => rfl
    | some k =>
      obtain ⟨e, he, hid⟩ := first_hit _ _ _ _ hf
      exact absurd hid (hk (ordOf e) (List.mem_map.2 ⟨e, List.mem_of_getElem? he, rfl⟩))
  clear hd hom
  unfold doM at h0 ⊢
  rw [if_pos ho, hf] at h0 ⊢
  dsimp only at h0 ⊢
  by_cases h64 : 64 ≤ (M o.stream.toNat).length
  · rw [if_pos h64] at h0
    cases h0
  · rw [if_neg h64]
    dsimp only
    have hn := fold_next (M o.stream.toNat) (entOf o) hf
    rw [ordOf_entOf] at hn
    refine ⟨ho, ?_, ?_, fun i hi => upd_far _ _ hi⟩
    · rw [hn]
      have hlen : (foldS (M o.stream.toNat)).2.length = (M o.stream.toNat).length := fold_len _ _ (Nat.le_refl _)
      rw [List.getD, List.getElem?_append_right (by omega), hlen, Nat.sub_self]
      rfl
    · rw [upd_at, hn]
/-- The states of all streams, as far as they were asked. -/
def wasC (M : Logs) (j : Nat) : List Value :=
  (if 0 < j then stv (foldS (M 0)).1 else stv ⟨0, false, 0, 0⟩) ++ (if 1 < j then stv (foldS (M 1)).1 else stv ⟨0, false, 0, 0⟩) ++ (if 2 < j then stv (foldS (M 2)).1 else stv ⟨0, false, 0, 0⟩) ++ (if 3 < j then stv (foldS (M 3)).1 else stv ⟨0, false, 0, 0⟩)
theorem was_len (M : Logs) (j : Nat) : (wasC M j).length = 16 := by
  unfold wasC
  simp only [List.length_append]
  have h : ∀ (c : Prop) [Decidable c] (s t : St), (if c then stv s else stv t).length = 4 := fun c _ s t => by split <;> rfl
  rw [h, h, h, h]
theorem was_at (M : Logs) {s : Nat} (h : s < 4) (i : Nat) (hi : i < 4) : (wasC M 4)[s * 4 + i]? = (stv (foldS (M s)).1)[i]? := by
  obtain rfl | rfl | rfl | rfl : s = 0 ∨ s = 1 ∨ s = 2 ∨ s = 3 := by omega
  all_goals
    obtain rfl | rfl | rfl | rfl : i = 0 ∨ i = 1 ∨ i = 2 ∨ i = 3 := by omega
    all_goals rfl
end Go.Proofs.Ytlineikeafepcaa
