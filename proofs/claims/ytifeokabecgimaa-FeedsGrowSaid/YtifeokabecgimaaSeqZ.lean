/-
  A region that draws its order, by a schedule whose last operation waits for all the others: what was said of the world need not hold behind it.
-/
import Derived.Test.YtifeokabecgimaaSeqP2
set_option linter.unusedSimpArgs false
set_option linter.unusedVariables false
set_option maxRecDepth 100000
namespace Go.Sq
open Go

section
variable {P : Program} {ops : Array Oper} {Q : Exit → Act → World → Prop} {md : Region.Mode} {S : World → Prop}

def wpAnyZ (P : Program) (md : Region.Mode) (ops : Array Oper) (Q : Exit → Act → World → Prop) (S : World → Prop) (z : Nat) : Nat → Array Bool → Act → World → Prop
  | 0, listed, a, w => Region.ready md ops listed = [] ∧ Q .normal a w
  | fuel + 1, listed, a, w =>
    (Region.ready md ops listed = [] → Q .normal a w) ∧
    ∀ i ∈ Region.ready md ops listed, wpOp P ops Q i (fun a' w' => (i = z ∨ S w') ∧ wpAnyZ P md ops Q S z fuel (listed.setIfInBounds i true) a' w') a w

theorem wpAny_of_Z {z : Nat} : ∀ (fuel : Nat) (listed : Array Bool) (a : Act) (w : World), wpAnyZ P md ops Q S z fuel listed a w → wpAny P md ops Q fuel listed a w
  | 0, _, _, _, h => h
  | fuel + 1, _, _, _, h => ⟨h.1, fun i hi => wpOp_mono (fun a' w' h' => wpAny_of_Z fuel _ a' w' h'.2) (h.2 i hi)⟩

theorem wpAnyZ_first {i z : Nat} {oi : Oper} {v : Value} (hi : ops[i]? = some oi) (hsel : ∀ (j : Nat) (o : Oper) cs b, ops[j]? = some o → o.op ≠ .select cs b)
    (hQ : ∀ c a w, Q (.panic c) (a.put oi.dst v) w → Q (.panic c) a w)
    (hz : ∀ oz, ops[z]? = some oz → ∃ e ∈ oz.after, Region.binds md e = true ∧ e.on = i) :
    ∀ (fuel : Nat) (listed : Array Bool) (a : Act) (w : World),
      (∀ j oj, ops[j]? = some oj → j ≠ i → listed.getD j true = false → (∀ e ∈ oj.after, Region.binds md e = true → e.on ≠ i) → oi.apart ops oj = true) →
      i ∈ Region.ready md ops listed → YieldsQ P ops S oi v a → S w →
      wpAnyZ P md ops Q S z fuel (listed.setIfInBounds i true) (a.put oi.dst v) w → wpAnyZ P md ops Q S z (fuel + 1) listed a w := by
  intro fuel
  induction fuel with
  | zero =>
    intro listed a w _ hr hy hS H
    refine ⟨fun h => (by rw [h] at hr; cases hr), fun j hj => ?_⟩
    by_cases hji : j = i
    · subst hji; exact hy.wpOp hi hS ⟨.inr hS, H⟩
    · have := ready_mono hj hji
      rw [H.1] at this
      cases this
  | succ fuel ih =>
    intro listed a w hfree hr hy hS H
    refine ⟨fun h => (by rw [h] at hr; cases hr), fun j hj => ?_⟩
    by_cases hji : j = i
    · subst hji; exact hy.wpOp hi hS ⟨.inr hS, H⟩
    · have h1 := H.2 j (ready_mono hj hji)
      obtain ⟨hjun, oj, hoj, hall⟩ := mem_ready.1 hj
      have hnot : ∀ e ∈ oj.after, Region.binds md e = true → e.on ≠ i := fun e he hb heq => by
        have h1 := hall e he hb
        have h0 := (mem_ready.1 hr).1
        rw [heq] at h1
        rcases Nat.lt_or_ge i listed.size with h' | h'
        · simp [h'] at h0 h1; rw [h0] at h1; cases h1
        · simp [Array.getElem?_eq_none h'] at h1
      have hjz : j ≠ z := fun e => by
        subst e
        obtain ⟨e, he, hb, heq⟩ := hz oj hoj
        exact hnot e he hb heq
      have h2 := wpOp_putQ hoj (hfree j oj hoj hji hjun hnot) (fun cs b => hsel i oi cs b hi) (fun cs b => hsel j oj cs b hoj) hQ hy h1
      have hfree' : ∀ k ok, ops[k]? = some ok → k ≠ i → (listed.setIfInBounds j true).getD k true = false →
          (∀ e ∈ ok.after, Region.binds md e = true → e.on ≠ i) → oi.apart ops ok = true := fun k ok hk hki hun hno => by
        refine hfree k ok hk hki ?_ hno
        by_cases hjk : j = k
        · subst hjk; exact hjun
        · rw [getD_set_ne true hjk] at hun; exact hun
      refine wpOp_mono (fun a' w' h3 => ⟨h3.2.1, ih (listed.setIfInBounds j true) a' w' hfree' (ready_mono hr (Ne.symm hji)) h3.1 (h3.2.1.resolve_left hjz) ?_⟩) h2
      rw [Array.setIfInBounds_comm _ _ hji]
      exact h3.2.2


/-- Operation z waits for all before it, and is the last. -/
def zWaits (ops : Array Oper) (z : Nat) : Bool := Nat.beq (z + 1) ops.size && (List.range z).all fun i => waitsFor i (nth ops.toList z).after.toList

theorem zWaits_spec {z i : Nat} (h : zWaits ops z = true) (hi : i < ops.size) (hne : i ≠ z) : ∀ oz, ops[z]? = some oz → ∃ e ∈ oz.after, Region.binds .any e = true ∧ e.on = i := by
  intro oz hoz
  unfold zWaits at h
  simp only [Bool.and_eq_true, List.all_eq_true, List.mem_range] at h
  have h1 := Nat.eq_of_beq_eq_true h.1
  have hzo : ops[z]? = some (nth ops.toList z) := by
    have := nth_get ops.toList z (by simp; omega)
    simpa using this
  rw [hzo] at hoz
  cases hoz
  obtain ⟨e, he, hb⟩ := waitsFor_iff.1 (h.2 i (by omega))
  exact ⟨e, by simpa using he, hb⟩

theorem wpAnyZ_pre {ds : List (Option Tmp)} (hds : ops.toList.map (·.dst) = ds) (hsel : noSel ops.toList = true) (hQ : ∀ c a d v w, Q (.panic c) (a.put d v) w → Q (.panic c) a w)
    {m z : Nat} {last : Array Bool} (hz : zWaits ops z = true) {K : Act → World → Prop} (hK : ∀ a w, S w → K a w → wpAnyZ P .any ops Q S z m last a w) :
    ∀ (perm : List (Nat × Bool)) (listed : Array Bool) (a : Act) (w : World), endP ops perm listed = some last → (perm.all fun p => !(Nat.beq p.1 z)) = true → S w → SeqP P ds K Q S (pick ops.toList perm) a w → wpAnyZ P .any ops Q S z (perm.length + m) listed a w := by
  have hns : Region.noSelect ops = true := by
    unfold Region.noSelect
    rw [← Array.all_toList, List.all_eq_true]
    exact noSel_spec hsel
  intro perm
  induction perm with
  | nil =>
    intro listed a w hok hzp hS h
    simp only [endP, Option.some.injEq] at hok
    subst hok
    rw [List.length_nil, Nat.zero_add]
    exact hK a w hS h
  | cons p r ih =>
    intro listed a w hok hzp hS h
    obtain ⟨i, q⟩ := p
    simp only [List.all_cons, Bool.and_eq_true] at hzp
    have hiz : i ≠ z := fun e => by have := hzp.1; rw [e] at this; simp [Nat.beq_refl] at this
    cases q with
    | true =>
      simp only [endP] at hok
      split at hok
      · rename_i hq
        simp only [quietOk, Bool.and_eq_true, Bool.not_eq_true'] at hq
        obtain ⟨⟨⟨hlt, hun⟩, hdep⟩, hoth⟩ := hq
        have hlt : i < ops.size := Nat.le_of_ble_eq_true hlt
        have hio : ops[i]? = some (nth ops.toList i) := by
          have := nth_get ops.toList i (by simpa using hlt)
          simpa using this
        obtain ⟨v, hs, hrest2⟩ := h
        rw [show ((i, true) :: r).length + m = (r.length + m) + 1 from by simp only [List.length_cons]; omega]
        refine wpAnyZ_first hio (Region.noSelect_spec hns) (fun c a w => hQ c a _ v w) (zWaits_spec hz (by simpa using hlt) hiz) (r.length + m) listed a w ?_ ?_ (by unfold YieldsQ; rw [wantedD_eq hds]; exact hs) hS ?_
        · intro j oj hoj hji hunj hno
          have hl := othersOk_spec hoth j oj (by simpa using hoj) (by omega) (by simpa using hunj)
          rcases hl with h1 | h1
          · obtain ⟨e, he, hb⟩ := waitsFor_iff.1 h1
            exact absurd hb.2 (hno e (by simpa using he) hb.1)
          · exact h1
        · rw [mem_ready]
          exact ⟨hun, _, hio, fun e he hb => depsIn_spec hdep e (by simpa using he) hb⟩
        · exact ih _ _ _ hok hzp.2 hS hrest2
      · cases hok
    | false =>
      simp only [endP] at hok
      by_cases hq : (Nat.blt i ops.size && onlyIs (Region.ready .any ops listed) i) = true
      · rw [if_pos hq] at hok
        simp only [Bool.and_eq_true] at hq
        obtain ⟨hlt, hrd⟩ := hq
        have hlt : i < ops.size := Nat.le_of_ble_eq_true hlt
        have hio : ops[i]? = some (nth ops.toList i) := by
          have := nth_get ops.toList i (by simpa using hlt)
          simpa using this
        have hrd2 := onlyIs_spec hrd
        simp only [pick, SeqP] at h
        rw [show ((i, false) :: r).length + m = (r.length + m) + 1 from by simp only [List.length_cons]; omega]
        refine ⟨fun h0 => (by rw [hrd2] at h0; cases h0), fun j hj => ?_⟩
        rw [hrd2] at hj
        obtain rfl : j = i := by simpa using hj
        unfold wpOp
        simp only [hio]
        rw [wantedD_eq hds]
        split
        · rename_i hw
          rw [if_pos hw] at h
          exact .inl (Oper.wp_mono (fun a w h => ⟨.inr h.1, ih _ _ _ hok hzp.2 h.1 h.2⟩) h)
        · rename_i hw
          rw [if_neg hw] at h
          exact ⟨.inr h.1, ih _ _ _ hok hzp.2 h.1 h.2⟩
      · rw [if_neg hq] at hok; cases hok


/-- What is asked of the last operation. -/
def LastZ (P : Program) (ds : List (Option Tmp)) (K : Act → World → Prop) (R : Exit → Act → World → Prop) (o : Oper) (a : Act) (w : World) : Prop :=
  if wantedD ds o a.tmps then o.wp P a w K R else K (a.put o.dst undef) w
theorem LastZ.eff {ds : List (Option Tmp)} {K : Act → World → Prop} {R : Exit → Act → World → Prop} {o : Oper} {a : Act} {w : World} (hw : wantedD ds o a.tmps = true) (h : o.wp P a w K R) : LastZ P ds K R o a w := by
  unfold LastZ; rw [if_pos hw]; exact h

def okZ (ops : Array Oper) (p : List (Nat × Bool)) (z : Nat) : Bool :=
  zWaits ops z && Nat.beq (p.length + 1) ops.size && (p.all fun p => !(Nat.beq p.1 z)) && (match endP ops p (upto ops.size 0) with
  | none => false
  | some l => onlyIs (Region.ready .any ops l) z && (Region.ready .any ops (l.setIfInBounds z true)).isEmpty)

/-- THE RULE. -/
theorem wp_region_z {id : Nat} {a : Act} {w : World} (perm : List (Nat × Bool)) (z : Nat) (S : World → Prop) (hm : P.follows .mixedOrders = true)
    (hsel : noSel ops.toList = true) (hok : okZ ops perm z = true) (hS : S w.drew) {ds : List (Option Tmp)} (hds : ops.toList.map (·.dst) = ds)
    (h : ∀ (K : Act → World → Prop) (R : Exit → Act → World → Prop) (T : World → Prop), (∀ a w, Q .normal a w → K a w) → (∀ w, T w → S w) → (∀ w, S w → T w) →
      SeqP P ds (fun a w => LastZ P ds K R (nth ops.toList z) a w) R T (pick ops.toList perm) a w.drew) :
    (Code.region id ops true).wp P Q a w := by
  unfold okZ at hok
  simp only [Bool.and_eq_true] at hok
  obtain ⟨⟨⟨hz, hlen⟩, hpz⟩, hend⟩ := hok
  have hlen := Nat.eq_of_beq_eq_true hlen
  cases hl : endP ops perm (upto ops.size 0) with
  | none => rw [hl] at hend; cases hend
  | some l =>
  rw [hl] at hend
  simp only [Bool.and_eq_true, List.isEmpty_iff] at hend
  obtain ⟨hr1, hr2⟩ := hend
  have hz1 : z + 1 = ops.size := by
    unfold zWaits at hz
    simp only [Bool.and_eq_true] at hz
    exact Nat.eq_of_beq_eq_true hz.1
  have hrd := onlyIs_spec hr1
  have hzo : ops[z]? = some (nth ops.toList z) := by
    have := nth_get ops.toList z (by simp; omega)
    simpa using this
  refine wp_region_noPanic (wp_region_any hm (wpAny_of_Z (S := S) (z := z) _ _ _ _ ?_))
  have h1 := wpAnyZ_pre (P := P) (S := S) (Q := NoPanic Q) (m := 1) (last := l) hds hsel (fun _ _ _ _ _ h => h) hz (fun a w hS hab => ?_) perm (upto ops.size 0) a w.drew hl hpz hS
    (h (NoPanic Q .normal) (NoPanic Q) S (fun _ _ h => h) (fun _ h => h) (fun _ h => h))
  · rw [hlen] at h1
    have h3 : upto ops.size 0 = Array.replicate ops.size false := by
      apply Array.ext
      · simp [upto]
      · intro j _ _; simp [upto]
    rw [h3] at h1
    exact h1
  · refine ⟨fun h0 => (by rw [hrd] at h0; cases h0), fun n hn => ?_⟩
    rw [hrd] at hn
    obtain rfl : n = z := by simpa using hn
    unfold wpOp
    simp only [hzo]
    rw [wantedD_eq hds]
    unfold LastZ at hab
    split
    · rename_i hw
      rw [if_pos hw] at hab
      exact .inl (Oper.wp_mono (fun a w h => ⟨.inl (by trivial), hr2, h⟩) hab)
    · rename_i hw
      rw [if_neg hw] at hab
      exact ⟨.inl (by trivial), hr2, hab⟩
end
end Go.Sq
