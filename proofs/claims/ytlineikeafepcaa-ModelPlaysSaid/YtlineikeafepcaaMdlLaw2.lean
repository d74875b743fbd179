/-
  What an order was told: it stays so.
-/
import Derived.Test.YtlineikeafepcaaMdlLaw
import Derived.Test.YtlineikeafepcaaFoldLaws2
set_option linter.unusedSimpArgs false
set_option linter.unusedVariables false
set_option maxRecDepth 100000
namespace Go.Proofs.Ytlineikeafepcaa
open Go.Arch

theorem outs_front (a r : List Ent) {k : Nat} (h : k < a.length) : (foldS (a ++ r)).2[k]? = (foldS a).2[k]? := by
  have := fold_cut (a ++ r) (m := a.length) (by simp)
  rw [List.take_left' rfl] at this
  rw [this, List.getElem?_take, if_pos h]
/-- Codes of orders that may be. -/
def CodeO (o : OutS) : Prop := o.1 = 1 ∨ o.1 = 2 ∨ o.1 = 3 ∨ (o.1 = 7 ∧ o.2.1 = 0)
theorem code_dec (s : St) {o : Ord} (ho : ordOk o = true) : CodeO (decS s o).2 := by
  by_cases hc : codeS s o = 1
  · rw [decS_yes hc]; exact .inl rfl
  · rw [decS_no hc]
    unfold CodeO
    dsimp only
    by_cases hm : mayS s = true
    · unfold codeS
      rw [if_pos ⟨hm, ho⟩]
      split
      · exact .inr (.inl rfl)
      · split
        · exact .inl rfl
        · exact .inr (.inr (.inl rfl))
    · refine .inr (.inr (.inr ⟨?_, ?_⟩))
      · unfold codeS
        exact if_neg (fun h => hm h.1)
      · unfold verS
        exact if_neg hm
theorem code_fold (l : List Ent) (hl : ∀ e ∈ l, ordOk (ordOf e) = true) : ∀ n, n ≤ l.length → ∀ o ∈ (foldTo l n).2, CodeO o
  | 0, _, o, ho => by cases ho
  | n + 1, h, o, ho => by
    have ih := code_fold l hl n (by omega)
    have he := List.getElem?_eq_getElem (show n < l.length by omega)
    rw [fold_succ he] at ho
    unfold stepF at ho
    split at ho
    · rename_i k hk
      rcases List.mem_append.1 ho with ho | ho
      · exact ih o ho
      · obtain rfl : o = dupOf (foldTo l n).2 k := by simpa using ho
        have hkn := first_lt l _ _ _ hk
        have hlen := fold_len l n (by omega)
        obtain ⟨q, hq⟩ : ∃ q, (foldTo l n).2[k]? = some q := ⟨_, List.getElem?_eq_getElem (by omega)⟩
        have := ih q (List.mem_of_getElem? hq)
        unfold dupOf
        rw [hq]
        exact this
    · rcases List.mem_append.1 ho with ho | ho
      · exact ih o ho
      · obtain rfl : o = (decS (foldTo l n).1 (ordOf l[n])).2 := by simpa using ho
        exact code_dec _ (hl _ (List.getElem_mem _))
theorem do_grows (M : Logs) (o : Ord) (i : Nat) : ∃ r, (doM M o).1 i = M i ++ r := by
  rw [do_at]
  split
  · unfold stepL
    split
    · exact ⟨[], by simp⟩
    · split
      · exact ⟨[], by simp⟩
      · exact ⟨_, rfl⟩
  · exact ⟨[], by simp⟩
theorem play_grows (l : List Ord) (i : Nat) : ∀ M : Logs, ∃ r, playM M l i = M i ++ r := by
  induction l with
  | nil => exact fun M => ⟨[], by simp [playM]⟩
  | cons o l ih =>
    intro M
    obtain ⟨r, hr⟩ := ih (doM M o).1
    obtain ⟨r', hr'⟩ := do_grows M o i
    exact ⟨r' ++ r, by show playM (doM M o).1 l i = _; rw [hr, hr', List.append_assoc]⟩
theorem play_app (M : Logs) (a b : List Ord) : playM M (a ++ b) = playM (playM M a) b := by simp [playM]
/-- An order's outcome stands in its stream's log. -/
def Told (M : Logs) (o : Ord) (p : OutS) : Prop :=
  ordOk o = true ∧ ∃ k, firstIn (M o.stream.toNat) (M o.stream.toNat).length o.id = some k ∧ (foldS (M o.stream.toNat)).2[k]? = some p
theorem do_told {M : Logs} {o : Ord} (h : (doM M o).2.2 = 0) : Told (doM M o).1 o (doM M o).2.1 := by
  unfold Told
  unfold doM at h ⊢
  by_cases ho : ordOk o = true
  · rw [if_pos ho] at h ⊢
    refine ⟨ho, ?_⟩
    cases hf : firstIn (M o.stream.toNat) (M o.stream.toNat).length o.id with
    | some k =>
      have hk := first_lt _ _ _ _ hf
      refine ⟨k, hf, ?_⟩
      dsimp only
      have hlen : (foldS (M o.stream.toNat)).2.length = (M o.stream.toNat).length := fold_len _ _ (Nat.le_refl _)
      rw [List.getD, List.getElem?_eq_getElem (by omega)]
      rfl
    | none =>
      rw [hf] at h
      dsimp only at h ⊢
      by_cases h64 : 64 ≤ (M o.stream.toNat).length
      · rw [if_pos h64] at h
        cases h
      · rw [if_neg h64]
        dsimp only
        rw [upd_at]
        generalize M o.stream.toNat = lg at *
        have hlen : (foldS (lg ++ [entOf o])).2.length = (lg ++ [entOf o]).length := fold_len _ _ (Nat.le_refl _)
        have hl1 : (lg ++ [entOf o]).length = lg.length + 1 := by simp
        refine ⟨lg.length, ?_, ?_⟩
        · rw [hl1]
          exact first_yes (e := entOf o) (by rw [List.getElem?_append_right (Nat.le_refl _), Nat.sub_self]; rfl) (by rw [first_front lg [entOf o] _ (Nat.le_refl _)]; exact hf) rfl
        · rw [List.getD, List.getElem?_eq_getElem (by omega)]
          rfl
  · rw [if_neg ho] at h
    cases h
theorem told_more {M M' : Logs} {o : Ord} {p : OutS} (h : Told M o p) (hg : ∃ r, M' o.stream.toNat = M o.stream.toNat ++ r) : Told M' o p := by
  obtain ⟨h0, k, h1, h2⟩ := h
  obtain ⟨r, hr⟩ := hg
  have hk := first_lt _ _ _ _ h1
  refine ⟨h0, k, ?_, ?_⟩
  · rw [hr]
    exact first_mono (j := (M o.stream.toNat).length) (by simp) (by rw [first_front _ r _ (Nat.le_refl _)]; exact h1)
  · rw [hr, outs_front _ r hk]
    exact h2
theorem told_again {M : Logs} {o : Ord} {p : OutS} (h : Told M o p) : doM M o = (M, p, 0) := by
  obtain ⟨h0, k, h1, h2⟩ := h
  unfold doM
  rw [if_pos h0, h1]
  dsimp only
  rw [List.getD, h2]
  rfl
theorem told_allows {M : Logs} (HF : FineM M) {o : Ord} {p : OutS} (h : Told M o p) : allowsM M o.stream (o.id, p.1, p.2.1) = true := by
  obtain ⟨h0, k, h1, h2⟩ := h
  have hr := ordOk_in h0
  have hS : o.stream.toNat < 4 := by omega
  have hc : CodeO p := code_fold _ (fun e he => ((HF _ hS).2 e he).2.1) _ (Nat.le_refl _) p (List.mem_of_getElem? h2)
  unfold allowsM
  dsimp only
  by_cases h7 : p.1 = 4 ∨ p.1 = 5 ∨ p.1 = 6 ∨ p.1 = 7
  · rw [if_pos h7]
    rcases hc with h | h | h | ⟨_, h⟩
    · omega
    · omega
    · omega
    · exact decide_eq_true h
  · rw [if_neg h7, if_pos ⟨hr.2.2.1, by omega⟩, h1]
    dsimp only
    rw [List.getD, h2]
    simp
/-- What each order was told, and whether it was taken. -/
def toldTo (l : List Ord) : Nat → List (OutS × Bool)
  | 0 => []
  | j + 1 => match l[j]? with
    | some o => toldTo l j ++ [((doM (playM (fun _ => []) (l.take j)) o).2.1, decide ((doM (playM (fun _ => []) (l.take j)) o).2.2 = 0))]
    | none => toldTo l j
theorem told_next {l : List Ord} {j : Nat} {o : Ord} (h : l[j]? = some o) : toldTo l (j + 1) = toldTo l j ++ [((doM (playM (fun _ => []) (l.take j)) o).2.1, decide ((doM (playM (fun _ => []) (l.take j)) o).2.2 = 0))] := by
  conv => lhs; unfold toldTo
  rw [h]
theorem told_len (l : List Ord) : ∀ j, j ≤ l.length → (toldTo l j).length = j
  | 0, _ => rfl
  | j + 1, h => by
    rw [told_next (List.getElem?_eq_getElem (show j < l.length by omega)), List.length_append, told_len l j (by omega)]
    rfl
theorem told_at (l : List Ord) : ∀ (j i : Nat) (o : Ord), j ≤ l.length → i < j → l[i]? = some o → (toldTo l j)[i]? = some ((doM (playM (fun _ => []) (l.take i)) o).2.1, decide ((doM (playM (fun _ => []) (l.take i)) o).2.2 = 0))
  | 0, i, o, _, h, _ => by omega
  | j + 1, i, o, hj, hi, ho => by
    have hlen := told_len l j (by omega)
    rw [told_next (List.getElem?_eq_getElem (show j < l.length by omega))]
    by_cases h : i = j
    · subst h
      rw [List.getElem?_append_right (by omega), hlen, Nat.sub_self]
      have : l[i] = o := by
        have e := List.getElem?_eq_getElem (show i < l.length by omega)
        rw [ho] at e
        exact (Option.some.inj e).symm
      rw [this]
      rfl
    · rw [List.getElem?_append_left (by omega)]
      exact told_at l j i o (by omega) (by omega) ho
/-- What was taken stays told. -/
theorem told_all {l : List Ord} {i : Nat} {o : Ord} {p : OutS} (ho : l[i]? = some o) (ht : (toldTo l l.length)[i]? = some (p, true)) : Told (playM (fun _ => []) l) o p := by
  have hi : i < l.length := (List.getElem?_eq_some_iff.1 ho).1
  rw [told_at l l.length i o (Nat.le_refl _) hi ho] at ht
  have h1 := Option.some.inj ht
  have h2 := congrArg Prod.fst h1
  have h3 := congrArg Prod.snd h1
  dsimp only at h2 h3
  have hd := do_told (of_decide_eq_true h3)
  rw [h2] at hd
  have hs : l = l.take (i + 1) ++ l.drop (i + 1) := (List.take_append_drop _ _).symm
  have hg := play_grows (l.drop (i + 1)) o.stream.toNat (playM (fun _ => []) (l.take (i + 1)))
  rw [← play_app, ← hs, play_next ho] at hg
  exact told_more hd hg
end Go.Proofs.Ytlineikeafepcaa
