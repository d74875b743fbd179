/-
  The program's book and the document's: what they have alike.
-/
import Derived.Test.YtigkfekidmjpbaaLeasesLives
import Derived.Test.YtigkfekidmjpbaaRef17G
set_option linter.unusedSimpArgs false
set_option linter.unusedVariables false
namespace Go.Proofs.Ytigkfekidmjpbaa

/-- The two books say the same of one stream. -/
def Alike1 (g : Option (Int × Int)) (e u : Int) : Prop := (e = 0 ∧ g = none) ∨ (1 ≤ e ∧ ∃ v, g = some (e, v) ∧ (v = u ∨ (v ≤ 0 ∧ u ≤ 0)))
def Alike (G : Int → Option (Int × Int)) (E U : Nat → Int) : Prop := ∀ s : Int, (0 ≤ s ∧ s < 4 → Alike1 (G s) (E s.toNat) (U s.toNat)) ∧ (¬ (0 ≤ s ∧ s < 4) → G s = none)

theorem alike_start : Alike (fun _ => none) (fun _ => 0) (fun _ => 0) := fun s => ⟨fun _ => .inl ⟨rfl, rfl⟩, fun _ => rfl⟩

theorem afterS_pos {now : Int} (h : 0 ≤ now) : 0 < afterS now := by unfold afterS; split <;> omega

theorem alike_grant {G : Int → Option (Int × Int)} {E U : Nat → Int} {s ep now : Int} (h : Alike G E U) (h0 : 0 ≤ now) : Alike (grantL G s ep now) (rgrantE E U s ep) (rgrantU E U s ep now) := by
  have hp := afterS_pos h0
  intro x
  obtain ⟨hx1, hx2⟩ := h x
  by_cases hE : grantE s ep = 0
  · have hs : 0 ≤ s ∧ s < 4 ∧ 1 ≤ ep := by unfold grantE at hE; split at hE <;> omega
    refine ⟨fun hx => ?_, fun hx => ?_⟩
    · have hx1 := hx1 hx
      by_cases hxs : x = s
      · subst hxs
        have e1 : ((x.toNat : Nat) : Int) = x := by omega
        simp only [grantL, hE, rgrantE, rgrantU, true_and, if_true]
        rcases hx1 with ⟨he, hg⟩ | ⟨he, v, hg, hv⟩
        · have h1 : E x.toNat ≤ ep := by omega
          have h2 : ¬ (ep = E x.toNat ∧ afterS now < U x.toNat) := by omega
          have h3 : ((none : Option (Int × Int)).getD (0, 0)).1 < ep := by simp; omega
          simp only [h1, if_true, upN, e1, hg, grantG, h2, if_false, h3]
          exact .inr ⟨by omega, _, rfl, .inl rfl⟩
        · by_cases h1 : E x.toNat ≤ ep
          · simp only [h1, if_true, upN, e1, hg, grantG, Option.getD_some]
            rcases Int.lt_or_eq_of_le h1 with h4 | h4
            · have h5 : ¬ (ep = E x.toNat ∧ afterS now < U x.toNat) := by omega
              simp only [h4, if_true, h5, if_false]
              exact .inr ⟨by omega, _, rfl, .inl rfl⟩
            · subst h4
              have h5 : ¬ E x.toNat < E x.toNat := by omega
              simp only [h5, if_false, if_true, true_and]
              refine .inr ⟨by omega, _, rfl, .inl ?_⟩
              split <;> omega
          · have h5 : ¬ E x.toNat < ep := by omega
            have h6 : ¬ ep = E x.toNat := by omega
            simp only [h1, if_false, hg, grantG, Option.getD_some, h5, h6]
            exact .inr ⟨he, v, rfl, hv⟩
      · have e1 : ¬ ((x.toNat : Nat) : Int) = s := by omega
        have e2 : grantL G s ep now x = G x := by simp [grantL, hxs]
        have e3 : rgrantE E U s ep x.toNat = E x.toNat := by unfold rgrantE; split <;> simp only [upN, e1, if_false]
        have e4 : rgrantU E U s ep now x.toNat = U x.toNat := by unfold rgrantU; split <;> simp only [upN, e1, if_false]
        rw [e2, e3, e4]
        exact hx1
    · have hxs : ¬ x = s := by rintro rfl; omega
      have e2 : grantL G s ep now x = G x := by simp [grantL, hxs]
      rw [e2]
      exact hx2 hx
  · have e2 : grantL G s ep now = G := by funext y; simp [grantL, hE]
    have e3 : rgrantE E U s ep = E := by simp [rgrantE, hE]
    have e4 : rgrantU E U s ep now = U := by simp [rgrantU, hE]
    rw [e2, e3, e4]
    exact ⟨hx1, hx2⟩

theorem alike_release {G : Int → Option (Int × Int)} {E U : Nat → Int} {s ep : Int} (h : Alike G E U) : Alike (relL G s ep) E (rrelU E U s ep) := by
  intro x
  obtain ⟨hx1, hx2⟩ := h x
  refine ⟨fun hx => ?_, fun hx => ?_⟩
  · have hx1 := hx1 hx
    by_cases hxs : x = s
    · subst hxs
      have e1 : ((x.toNat : Nat) : Int) = x := by omega
      rcases hx1 with ⟨he, hg⟩ | ⟨he, v, hg, hv⟩
      · have e2 : rrelU E U x ep = U := by unfold rrelU; rw [if_neg (by omega)]
        rw [e2]
        exact .inl ⟨he, by simp [relL, hg, relG]⟩
      · by_cases hc : E x.toNat = ep
        · have e2 : rrelU E U x ep = upN U x (-4611686018427387904) := by unfold rrelU; rw [if_pos (by omega)]
          rw [e2]
          refine .inr ⟨he, 0, by simp [relL, hg, relG, hc], .inr ⟨by omega, ?_⟩⟩
          simp only [upN, e1, if_true]; omega
        · have e2 : rrelU E U x ep = U := by unfold rrelU; rw [if_neg (by omega)]
          rw [e2]
          exact .inr ⟨he, v, by simp [relL, hg, relG, hc], hv⟩
    · have e1 : ¬ ((x.toNat : Nat) : Int) = s := by omega
      have e2 : relL G s ep x = G x := by simp [relL, hxs]
      have e3 : rrelU E U s ep x.toNat = U x.toNat := by unfold rrelU; split <;> simp only [upN, e1, if_false]
      rw [e2, e3]
      exact hx1
  · have e2 : relL G s ep x = G x := by
      by_cases hxs : x = s
      · subst hxs; simp [relL, hx2 hx, relG]
      · simp [relL, hxs]
    rw [e2]
    exact hx2 hx

theorem alike_may {G : Int → Option (Int × Int)} {E U : Nat → Int} {gr gr' s ep now : Int} (h : Alike G E U) (h0 : 0 ≤ now) (hg : gr = gr' ∨ (gr ≤ 0 ∧ gr' ≤ 0)) : mayL gr (G s) ep now = rmayL gr' E U s ep now := by
  obtain ⟨hx1, hx2⟩ := h s
  have hl : now < gr ↔ now < gr' := by omega
  unfold mayL rmayL
  by_cases hn : now < gr'
  · have hn' := hl.2 hn
    simp [hn, hn']
  · have hn' : ¬ now < gr := fun x => hn (hl.1 x)
    simp only [hn, hn', if_false]
    by_cases hs : 0 ≤ s ∧ s < 4
    · simp only [hs, and_self, if_true]
      rcases hx1 hs with ⟨he, hg⟩ | ⟨he, v, hg, hv⟩
      · simp [hg, he]
      · have h1 : ¬ E s.toNat = 0 := by omega
        rw [hg, Bool.eq_iff_iff]
        simp only [h1, decide_false, Bool.false_or, Bool.or_eq_true, decide_eq_true_eq]
        omega
    · simp [hs, hx2 hs]

theorem alike_hold {G : Int → Option (Int × Int)} {E U : Nat → Int} {s now : Int} (h : Alike G E U) (h0 : 0 ≤ now) : holdL (G s) now = rholdL E U s now := by
  obtain ⟨hx1, hx2⟩ := h s
  unfold holdL rholdL
  by_cases hs : 0 ≤ s ∧ s < 4
  · rcases hx1 hs with ⟨he, hg⟩ | ⟨he, v, hg, hv⟩
    · simp [hg, he]
    · rw [hg]
      by_cases hc : v ≤ now
      · have h2 : ¬ (now < U s.toNat) := by omega
        simp [hc, h2]
      · have h2 : now < U s.toNat := by omega
        have h1 : ¬ E s.toNat = 0 := by omega
        simp [hc, h2, h1, hs]
  · simp [hs, hx2 hs]
end Go.Proofs.Ytigkfekidmjpbaa
