/-
  What a majority is at, in plain Lean.
-/
import Derived.Test.YtlineikeafepcaaEpoMost
set_option linter.unusedSimpArgs false
set_option linter.unusedVariables false
set_option maxRecDepth 100000
namespace Go.Proofs.Ytlineikeafepcaa

def geC (l : List Int) (v : Int) : Nat := l.countP fun x => decide (v ≤ x)
def gtC (l : List Int) (v : Int) : Nat := l.countP fun x => decide (v < x)
/-- At v or above are k of them, above it fewer. -/
def KthP (l : List Int) (k : Nat) (v : Int) : Prop := v ∈ l ∧ k ≤ geC l v ∧ gtC l v < k
instance (l : List Int) (k : Nat) (v : Int) : Decidable (KthP l k v) := by unfold KthP; infer_instance

theorem geC_gt {l : List Int} {a b : Int} (h : a < b) : geC l b ≤ gtC l a := List.countP_mono_left (fun x _ hx => by simp only [decide_eq_true_eq] at hx ⊢; omega)
theorem kth_one {l : List Int} {k : Nat} {a b : Int} (ha : KthP l k a) (hb : KthP l k b) : a = b := by
  rcases Int.lt_trichotomy a b with h | h | h
  · have := geC_gt (l := l) h; have := ha.2.2; have := hb.2.1; omega
  · exact h
  · have := geC_gt (l := l) h; have := hb.2.2; have := ha.2.1; omega
theorem kth_perm {l m : List Int} (h : l.Perm m) {k : Nat} {v : Int} (hk : KthP l k v) : KthP m k v :=
  ⟨h.mem_iff.1 hk.1, by unfold geC; rw [← h.countP_eq]; exact hk.2.1, by unfold gtC; rw [← h.countP_eq]; exact hk.2.2⟩
theorem kth_sorted {S : List Int} (hS : S.Pairwise (· ≤ ·)) {k : Nat} (h0 : 0 < k) (hk : k ≤ S.length) : KthP S k (S.getD (S.length - k) 0) := by
  have hi : S.length - k < S.length := by omega
  have hv : S.getD (S.length - k) 0 = S[S.length - k] := by simp [List.getD, List.getElem?_eq_getElem hi]
  rw [hv]
  have hsplit : S = S.take (S.length - k) ++ (S[S.length - k] :: S.drop (S.length - k + 1)) := by
    rw [← List.drop_eq_getElem_cons hi, List.take_append_drop]
  generalize S[S.length - k] = v at hsplit ⊢
  have hlen : (S.drop (S.length - k + 1)).length + 1 = k := by rw [List.length_drop]; omega
  generalize S.take (S.length - k) = a at hsplit
  generalize S.drop (S.length - k + 1) = d at hsplit hlen
  rw [hsplit] at hS ⊢
  obtain ⟨_, hd, hx⟩ := List.pairwise_append.1 hS
  have hdv := (List.pairwise_cons.1 hd).1
  refine ⟨by simp, ?_, ?_⟩
  · unfold geC
    rw [List.countP_append]
    have : (v :: d).countP (fun x => decide (v ≤ x)) = (v :: d).length := List.countP_eq_length.2 (fun x hx => by
      rcases List.mem_cons.1 hx with rfl | hx
      · simp
      · simpa using hdv x hx)
    rw [this, List.length_cons]
    omega
  · unfold gtC
    rw [List.countP_append]
    have h1 : a.countP (fun x => decide (v < x)) = 0 := List.countP_eq_zero.2 (fun x ha => by
      have := hx x ha v (by simp)
      simpa using this)
    have h2 : (v :: d).countP (fun x => decide (v < x)) = d.countP (fun x => decide (v < x)) := by simp
    have h3 : d.countP (fun x => decide (v < x)) ≤ d.length := List.countP_le_length
    omega
theorem sort_perm (l : List Int) : (sortE l).Perm l := List.mergeSort_perm l _
theorem sort_sorted (l : List Int) : (sortE l).Pairwise (· ≤ ·) := by
  have := List.pairwise_mergeSort (le := fun x y : Int => decide (x ≤ y)) (fun a b c h1 h2 => by simp only [decide_eq_true_eq] at *; omega) (fun a b => by simp only [Bool.or_eq_true, decide_eq_true_eq]; omega) l
  exact this.imp (fun h => by simpa using h)
theorem most_kth {l : List Int} {n : Int} (h : mostOk l n) : ∃ v, mostE l n = (v, true) ∧ KthP l (majE n).toNat v := by
  have hr := maj_range h.1
  have hl : (sortE l).length = l.length := List.length_mergeSort l
  refine ⟨_, if_pos h, kth_perm (sort_perm l) ?_⟩
  rw [← hl]
  refine kth_sorted (sort_sorted l) (by omega) ?_
  rw [hl]
  have := h.2.2
  omega
theorem most_eq {l : List Int} {n v : Int} (h : mostOk l n) (hv : KthP l (majE n).toNat v) : mostE l n = (v, true) := by
  obtain ⟨a, ha, hk⟩ := most_kth h
  rw [ha, kth_one hk hv]
theorem most_not {l : List Int} {n : Int} (h : ¬ mostOk l n) : mostE l n = (0, false) := if_neg h
theorem most_a : mostE [5, 1, 9] 3 = (5, true) := most_eq (by decide) (by decide)
theorem most_b : mostE [5] 3 = (0, false) := most_not (by decide)
end Go.Proofs.Ytlineikeafepcaa
