/-
  The walk over the statement 'LeasesGrace'.
-/
import Derived.Test.YtigkfekidmjpbaaLeasesLives
import Derived.Deep.LoopGhost
set_option linter.unusedSimpArgs false
set_option linter.unusedVariables false
namespace Go.Proofs.Ytigkfekidmjpbaa
open Go.RowKit Go.Sq Go.Im

theorem grant_until {s ep th now : Int} (h : th ≤ now) (h1 : 0 ≤ now) (h2 : now < 1073741824) : ∀ u, grantL (fun _ => none) s ep th s = some u → u.2 ≤ now + 16 := by
  intro u hu
  have ha : afterS th ≤ now + 16 := by unfold afterS; split <;> omega
  unfold grantL at hu
  split at hu
  · unfold grantG at hu
    split at hu
    · cases hu; exact ha
    · split at hu
      · cases hu
        simp
        omega
      · cases hu
  · cases hu

theorem held_end {G : Option (Int × Int)} {now : Int} (h : ∀ u, G = some u → u.2 ≤ now) : (holdL G now).2 = false := by
  cases G with
  | none => rfl
  | some g => simp [holdL, h g rfl]

theorem may_low {gr ep now : Int} (h : now < gr) : mayL gr none ep now = false := by simp [mayL, h]
theorem may_high {gr ep now : Int} (h : gr ≤ now) : mayL gr none ep now = true := by
  have : ¬ now < gr := by omega
  simp [mayL, this]

theorem lmay_lo (b m n : Nat) (gr : Int) (s ep now : Int) (hlt : now < gr) (hs : (Lit.int .i64 s).wf = true) (w : World) (h : Bk w b m n gr (fun _ => none)) :
    Calls Try.prog 17 #[.pointer (some ⟨b, 0, none⟩), .int .i64 s, .int .i64 ep, .int .i64 now] w fun e w' => e = .returned (.bool false) ∧ Below w.heap.size w w' :=
  (lmay_any b m n gr _ s ep now hs w h).mono fun _ _ h => ⟨h.1.trans (ret_bool (may_low hlt)), h.2⟩
theorem lmay_hi (b m n : Nat) (gr : Int) (s ep now : Int) (hlt : gr ≤ now) (hs : (Lit.int .i64 s).wf = true) (w : World) (h : Bk w b m n gr (fun _ => none)) :
    Calls Try.prog 17 #[.pointer (some ⟨b, 0, none⟩), .int .i64 s, .int .i64 ep, .int .i64 now] w fun e w' => e = .returned (.bool true) ∧ Below w.heap.size w w' :=
  (lmay_any b m n gr _ s ep now hs w h).mono fun _ _ h => ⟨h.1.trans (ret_bool (may_high hlt)), h.2⟩

set_option maxHeartbeats 4000000 in
theorem leasesGrace_walk (s ep now a : Int) (w : World) (hs : (Lit.int .i64 s).wf = true) (he : (Lit.int .i64 ep).wf = true) (hn : (Lit.int .i64 now).wf = true) (ha0 : 0 ≤ a) (ha1 : a ≤ 255)
    (v : Value) (hv : v = .agg #[.int .i64 s, .int .i64 ep, .int .i64 now]) :
    Calls Try.prog 3 #[v, .int .u8 a] w fun e w' => e = .returned (.bool true) ∧ Below w.heap.size w w' := by
  subst hv
  go_enter Try.func3, Try.ntmps3
  go_wp2_with fail
  refine wp_region_all (fun w' => Keeps (w.heap.size + 1) [(⟨w.heap.size, 0, none⟩, .int .i64 s), (⟨w.heap.size, 1, none⟩, .int .i64 ep), (⟨w.heap.size, 2, none⟩, .int .i64 now)] w w') (by kernel_rfl) (by kernel_rfl) (by refine ⟨?_, by first | (simp; done) | (simp; omega) | omega, by first | (simp [List.forall_mem_cons]; done) | (simp [List.forall_mem_cons]; omega), by simp [cellsAre_cons, cellsAre_nil, go_sem, World.cell?_alloc_past, *]⟩; (repeat (first | with_reducible apply Below.drew | with_reducible refine Below.setCell ?_ (by first | exact Nat.le_refl _ | (simp; done) | (simp; omega) | omega) _ | with_reducible refine Below.alloc ?_ (by first | exact Nat.le_refl _ | (simp; done) | (simp; omega) | omega) _ | with_reducible exact Below.refl _ _ | with_reducible assumption))) rfl ?_
  intro K T hK hT hT'
  simp only [List.map] at hK ⊢
  go_wp2_with (first
    | (apply SeqD.skip; rfl; simp only [Act.put, List.setIfInBounds_toArray, List.set_cons_zero, List.set_cons_succ])
    | (apply SeqD.call; rfl; rfl; (intro w2 hw; obtain ⟨h1, h2, h3, h4⟩ := hT _ hw; simp only [cellsAre_cons, cellsAre_nil, and_true] at h4; (skip); go_simp; exact ⟨rfl, rfl⟩); (intro w2 hw; obtain ⟨h1, h2, h3, h4⟩ := hT _ hw; simp only [cellsAre_cons, cellsAre_nil, and_true] at h4; (skip); (first | fail)); simp only [Act.put, List.setIfInBounds_toArray, List.set_cons_zero, List.set_cons_succ])
    | (apply SeqD.pure; rfl; (intro w2 hw; obtain ⟨h1, h2, h3, h4⟩ := hT _ hw; simp only [cellsAre_cons, cellsAre_nil, and_true] at h4; (skip); go_simp; with_reducible rfl); simp only [Act.put, List.setIfInBounds_toArray, List.set_cons_zero, List.set_cons_succ])
    | (apply SeqD.split; rfl; rfl; all_goals (intro hc; simp only [hc]; try simp only [beq_iff_eq, decide_eq_true_eq, beq_eq_false_iff_ne, decide_eq_false_iff_not, bne_iff_ne, ne_eq, Bool.not_eq_true', Bool.not_eq_false', Int.not_le, Int.not_lt, bne_eq_false_iff_eq] at hc)))
  all_goals (apply SeqD.nil; refine hK _ ?_; intro w2 hw; obtain ⟨h1, h2, h3, h4⟩ := id hw; simp only [cellsAre_cons, cellsAre_nil, and_true] at h4; clear hT hT' hK)
  by_cases hbad : now < 0 ∨ 1073741824 ≤ now ∨ ep < 1
  · go_wp2_with fail
    all_goals (refine (lives_walk _).mono ?_; rintro e wz ⟨rfl, hbz⟩; go_wp2_with fail; go_ret; exact ⟨rfl, below_below h1 hbz h1.size⟩)
  · have n1 : 0 ≤ now := by omega
    have n2 : now < 1073741824 := by omega
    have n3 : 1 ≤ ep := by omega
    go_wp2_with fail
    refine (lnew_any 0 (by decide) false _).mono ?_
    rintro e w3 ⟨b, m, rfl, hk3, hb3, hb, hm⟩
    have hw3 := below_below h1 hb3 h1.size
    clear hb3
    by_cases hle : a ≤ now
    all_goals
      go_wp2_with fail
      refine (lgrant_any b m 0 (by decide) _ _ s ep _ hs (by omega) _ hk3).mono ?_
      rintro e w4 ⟨rfl, hk4, hb4⟩
      have hw4 := below_but hw3 hb4 (by have := h1.size; omega) hw3.size
      obtain ⟨G1, hk4, hG⟩ : ∃ G1, Bk w4 b m (0 + 1) (graceL false 0) G1 ∧ ∀ u, G1 s = some u → u.2 ≤ now + 16 := ⟨_, hk4, grant_until (by omega) n1 n2⟩
      clear hb4 hw3 hk3
      go_wp2_with fail
      refine (lnew_any now (by omega) true _).mono ?_
      rintro e w5 ⟨c, mc, rfl, hc5, hb5, _, _⟩
      have hw5 := below_below hw4 hb5 hw4.size
      have hk5 := hk4.below hb5
      clear hb5 hw4 hk4
      go_wp2_with fail
      clear h1 h2 h3 h4 hw hb hm
      have hgr : graceL true now = now + 16 := by
        have : ¬ now > 1073741824 := by omega
        simp [graceL, afterS, this]
      rw [hgr] at hc5
      clear hgr
      go_loopg [11] 20 (fun k i wr => ∃ j : Nat, k = 20 - j ∧ j ≤ 20 ∧ i = .int .i64 j ∧ Below w.heap.size w wr ∧ Bk wr b m (0 + 1) (graceL false 0) G1 ∧ Bk wr c mc 0 (now + 16) (fun _ => none))
      case atStart => exact ⟨0, rfl, by omega, rfl, hw5, hk5, hc5⟩
      case round =>
        clear hw5 hk5 hc5
        obtain ⟨j, hk, hj, rfl, hwr, hkr, hcr⟩ := hrel
        have A : Aside (gk = 20 - j) := hk
        clear hk
        by_cases hlt : j < 20
        · by_cases hj16 : j < 16
          · go_wp2_with fail
            refine (lholder_any b m _ _ G1 s (now + j) hs _ hkr).mono ?_
            rintro e w6 ⟨rfl, hb6⟩
            have hw6 := below_below hwr hb6 hwr.size
            have hk6 := hkr.below hb6
            have hc6 := hcr.below hb6
            clear hb6 hwr hkr hcr
            generalize (holdL (G1 s) (now + j)).1 = hd1
            generalize (holdL (G1 s) (now + j)).2 = hd2
            go_wp2_with fail
            refine (lmay_lo c mc _ _ s _ (now + j) (by omega) hs _ hc6).mono ?_
            rintro e w7 ⟨rfl, hb7⟩
            have hw7 := below_below hw6 hb7 hw6.size
            have hk7 := hk6.below hb7
            have hc7 := hc6.below hb7
            clear hb7 hw6 hk6 hc6
            cases hd2
            all_goals
              go_wp2_with fail
              go_roundg (20 - (j + 1))
              case measure => have hkk := A.out; omega
              case rel => exact ⟨j + 1, rfl, by omega, by go_num, hw7, hk7, hc7⟩
          · go_wp2_with fail
            refine ((lholder_any b m _ _ G1 s (now + j) hs _ hkr)).mono ?_
            rintro e w6 ⟨rfl, hb6⟩
            have hw6 := below_below hwr hb6 hwr.size
            have hk6 := hkr.below hb6
            have hc6 := hcr.below hb6
            clear hb6 hwr hkr hcr
            rw [held_end (fun u hu => by have := hG u hu; omega)]
            generalize (holdL (G1 s) (now + j)).1 = hd1
            have hj16' : (16 : Int) ≤ (j : Int) := by omega
            go_wp2_with fail
            refine (lmay_hi c mc _ _ s _ (now + j) (by omega) hs _ hc6).mono ?_
            rintro e w7 ⟨rfl, hb7⟩
            have hw7 := below_below hw6 hb7 hw6.size
            have hk7 := hk6.below hb7
            have hc7 := hc6.below hb7
            clear hb7 hw6 hk6 hc6
            go_wp2_with fail
            go_roundg (20 - (j + 1))
            case measure => have hkk := A.out; omega
            case rel => exact ⟨j + 1, rfl, by omega, by go_num, hw7, hk7, hc7⟩
        · go_wp2_with fail
          refine (lives_walk _).mono ?_
          rintro e wz ⟨rfl, hbz⟩
          go_wp2_with fail
          go_ret
          exact ⟨rfl, below_below hwr hbz hwr.size⟩
end Go.Proofs.Ytigkfekidmjpbaa
