/-
  The document's Most, and the walk over SameInts of two equal lists.
-/
import Derived.Test.YtlineikeafepcaaEpoWorks
import Derived.Test.YtlineikeafepcaaSeqP
import Derived.Deep.LoopGhost
set_option linter.unusedSimpArgs false
set_option linter.unusedVariables false
set_option maxRecDepth 100000
namespace Go.Proofs.Ytlineikeafepcaa
open Go Go.RowKit Go.Sq Go.Wd

/-- One number of the document's loop. -/
def mStep (k : Nat) (l : List Int) (s : Int × Bool) (x : Int) : Int × Bool :=
  if k ≤ geC l x ∧ (s.2 = false ∨ s.1 < x) then (x, true) else s
def mRun (k : Nat) (l : List Int) (i : Nat) : Int × Bool := (l.take i).foldl (mStep k l) (0, false)
theorem mRun_next {k : Nat} {l : List Int} {i : Nat} {x : Int} (hx : l[i]? = some x) : mRun k l (i + 1) = mStep k l (mRun k l i) x := by
  unfold mRun
  rw [List.take_add_one, hx]
  simp
theorem fold_none {k : Nat} {l : List Int} (h : l.length < k) (m : List Int) : m.foldl (mStep k l) (0, false) = (0, false) := by
  induction m with
  | nil => rfl
  | cons x m ih =>
    rw [List.foldl_cons]
    have : geC l x ≤ l.length := List.countP_le_length
    have e : mStep k l (0, false) x = (0, false) := if_neg (by omega)
    rw [e]
    exact ih
theorem fold_best {k : Nat} {l : List Int} (m : List Int) : ∀ s : Int × Bool, (s.2 = true → k ≤ geC l s.1) →
    (((m.foldl (mStep k l) s).2 = true → k ≤ geC l (m.foldl (mStep k l) s).1) ∧ (s.2 = true → (m.foldl (mStep k l) s).2 = true ∧ s.1 ≤ (m.foldl (mStep k l) s).1) ∧ ∀ x ∈ m, k ≤ geC l x → (m.foldl (mStep k l) s).2 = true ∧ x ≤ (m.foldl (mStep k l) s).1) := by
  induction m with
  | nil => exact fun s hs => ⟨hs, fun h => ⟨h, Int.le_refl _⟩, fun x h => absurd h (by simp)⟩
  | cons y m ih =>
    intro s hs
    rw [List.foldl_cons]
    by_cases hc : k ≤ geC l y ∧ (s.2 = false ∨ s.1 < y)
    · have e : mStep k l s y = (y, true) := if_pos hc
      rw [e]
      obtain ⟨h1, h2, h3⟩ := ih (y, true) (fun _ => hc.1)
      have h2' := h2 rfl
      dsimp only at h2'
      refine ⟨h1, fun h => ⟨h2'.1, ?_⟩, fun x hx hk => ?_⟩
      · rcases hc.2 with h' | h'
        · rw [h] at h'; cases h'
        · omega
      · rcases List.mem_cons.1 hx with rfl | hx
        · exact h2'
        · exact h3 x hx hk
    · have e : mStep k l s y = s := if_neg hc
      rw [e]
      obtain ⟨h1, h2, h3⟩ := ih s hs
      refine ⟨h1, h2, fun x hx hk => ?_⟩
      rcases List.mem_cons.1 hx with rfl | hx
      · cases hb : s.2 with
        | false => exact absurd ⟨hk, .inl hb⟩ hc
        | true =>
          have := h2 hb
          refine ⟨this.1, ?_⟩
          by_cases hlt : s.1 < x
          · exact absurd ⟨hk, .inr hlt⟩ hc
          · omega
      · exact h3 x hx hk
/-- What the document's loop comes to. -/
theorem mRun_all {l : List Int} {n : Int} (hs : sitesE n = true) (hl : (l.length : Int) ≤ n) : mRun (majE n).toNat l l.length = mostE l n := by
  have hr := maj_range hs
  unfold mRun
  rw [List.take_length]
  by_cases hk : majE n ≤ l.length
  · obtain ⟨v, hv, hm, h1, h2⟩ := most_kth (l := l) (n := n) ⟨hs, hl, hk⟩
    rw [hv]
    obtain ⟨a1, _, a3⟩ := fold_best (k := (majE n).toNat) (l := l) l (0, false) (fun h => by cases h)
    have a := a3 v hm h1
    have b := a1 a.1
    generalize l.foldl (mStep (majE n).toNat l) (0, false) = s at a b ⊢
    obtain ⟨y, t⟩ := s
    dsimp only at a b
    obtain rfl := a.1
    by_cases hlt : v < y
    · have := geC_gt (l := l) hlt
      omega
    · obtain rfl : v = y := by omega
      rfl
  · rw [most_not (fun h => hk h.2.2)]
    exact fold_none (by omega) _

set_option maxHeartbeats 1000000 in
theorem same01_any (l : List Int) (A B : Option Addr) (c d : Nat) (w : World) (ha : Nums w w.heap.size A .i64 l) (hb : Nums w w.heap.size B .i64 l) (hl : l.length ≤ 9223372036854775807) :
    Calls Try.prog 37 #[.slice A l.length c, .slice B l.length d] w fun e w' => e = .returned (.bool true) ∧ Below w.heap.size w w' := by
  have hw : Below w.heap.size w w := Below.refl _ _
  have H := Lib.hid (And.intro ha hb)
  clear ha hb
  go_enter Try.func37, Try.ntmps37
  go_wp2_with fail
  go_loopg [5] l.length (fun k i wr => ∃ j : Nat, k = l.length - j ∧ j ≤ l.length ∧ i = .int .i64 j ∧ Below w.heap.size w wr)
  case atStart => exact ⟨0, rfl, by omega, rfl, hw⟩
  case round =>
    clear hw
    obtain ⟨j, hk, hj, rfl, hwr⟩ := hrel
    have AA : Aside (gk = l.length - j) := hk
    clear hk
    by_cases hlt : j < l.length
    · obtain ⟨b1, o1, x, rfl, hx, FA⟩ := H.out.1.at_ hlt
      obtain ⟨b2, o2, y, rfl, hy, FB⟩ := H.out.2.at_ hlt
      obtain rfl : x = y := Option.some.inj (hx.out.symm.trans hy.out)
      clear hx hy
      go_wp2_with fail
      refine wp_region_p ([(0, true), (1, true), (2, true), (3, true), (4, true), (5, true), (6, true), (7, true), (8, true)]) (fun w' => Below w.heap.size w w') (by kernel_rfl) rfl (by kernel_rfl) (by kernel_rfl) (hwr.drew) rfl ?_
      intro KP RP TP hKP hTP hTP'
      simp only [pick, nth]
      go_wp2_with (first
        | (apply SeqP.skip; rfl; simp only [Act.put, List.setIfInBounds_toArray, List.set_cons_zero, List.set_cons_succ])
        | (apply SeqP.call; rfl; rfl; (intro w2 hw; have hw := hTP _ hw; ((have q0 := FA _ hw; have q1 := FB _ hw)); go_simp; exact ⟨rfl, rfl⟩); (intro w2 hw; have hw := hTP _ hw; ((have q0 := FA _ hw; have q1 := FB _ hw)); (first | fail)); simp only [Act.put, List.setIfInBounds_toArray, List.set_cons_zero, List.set_cons_succ])
        | (apply SeqP.pure; rfl; (intro w2 hw; have hw := hTP _ hw; ((have q0 := FA _ hw; have q1 := FB _ hw)); go_simp; with_reducible rfl); simp only [Act.put, List.setIfInBounds_toArray, List.set_cons_zero, List.set_cons_succ])
        | (apply SeqP.split; rfl; rfl; all_goals (intro hc; simp only [hc]; try simp only [beq_iff_eq, decide_eq_true_eq, beq_eq_false_iff_ne, decide_eq_false_iff_not, bne_iff_ne, ne_eq, Bool.not_eq_true', Bool.not_eq_false', Int.not_le, Int.not_lt, bne_eq_false_iff_eq, Bool.or_eq_true, Bool.and_eq_true, Bool.or_eq_false_iff] at hc)))
      apply SeqP.nil
      refine hKP _ _ (hTP' _ (hwr.drew)) ?_
      clear hKP hTP hTP'
      clear FA FB
      go_wp2_with fail
      go_roundg (l.length - (j + 1))
      case measure => have hkk := AA.out; omega
      case rel => exact ⟨j + 1, rfl, by omega, by go_num, hwr.drew⟩
    · go_wp2_with fail
      go_ret
      exact ⟨rfl, hwr⟩
end Go.Proofs.Ytlineikeafepcaa
