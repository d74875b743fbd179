/-
  A region that draws its order, by a schedule that parts in two: where either of two operations may come next.
-/
import Derived.Test.YtifeokabecgimaaSeqP
set_option linter.unusedSimpArgs false
set_option linter.unusedVariables false
set_option maxRecDepth 100000
namespace Go.Sq
open Go

section
variable {P : Program} {ops : Array Oper} {Q : Exit → Act → World → Prop} {S : World → Prop}

def onlyIs : List Nat → Nat → Bool
  | [j], i => Nat.beq j i
  | _, _ => false
theorem onlyIs_spec : ∀ {l : List Nat} {i : Nat}, onlyIs l i = true → l = [i]
  | [j], i, h => by rw [Nat.eq_of_beq_eq_true h]
  | [], _, h => by cases h
  | _ :: _ :: _, _, h => by cases h

/-- What is done behind a schedule. -/
def endP (ops : Array Oper) : List (Nat × Bool) → Array Bool → Option (Array Bool)
  | [], l => some l
  | (i, true) :: r, l => if quietOk ops i l then endP ops r (l.setIfInBounds i true) else none
  | (i, false) :: r, l => if Nat.blt i ops.size && onlyIs (Region.ready .any ops l) i then endP ops r (l.setIfInBounds i true) else none

def okTwo (ops : Array Oper) (p p1 p2 : List (Nat × Bool)) : Bool :=
  match endP ops p (upto ops.size 0) with
  | none => false
  | some l => Nat.beq p1.length p2.length && Nat.beq (p.length + p1.length) ops.size && (match p1, p2, Region.ready .any ops l with
    | (i, false) :: r1, (j, false) :: r2, [a, b] => Nat.beq a i && Nat.beq b j && Nat.blt i ops.size && Nat.blt j ops.size && okP ops r1 (l.setIfInBounds i true) && okP ops r2 (l.setIfInBounds j true)
    | _, _, _ => false)

theorem wpAnyH_pre {ds : List (Option Tmp)} (hds : ops.toList.map (·.dst) = ds) (hsel : noSel ops.toList = true) (hQ : ∀ c a d v w, Q (.panic c) (a.put d v) w → Q (.panic c) a w)
    {m : Nat} {last : Array Bool} {K : Act → World → Prop} (hK : ∀ a w, S w → K a w → wpAnyH P .any ops Q S m last a w) :
    ∀ (perm : List (Nat × Bool)) (listed : Array Bool) (a : Act) (w : World), endP ops perm listed = some last → S w → SeqP P ds K Q S (pick ops.toList perm) a w → wpAnyH P .any ops Q S (perm.length + m) listed a w := by
  have hns : Region.noSelect ops = true := by
    unfold Region.noSelect
    rw [← Array.all_toList, List.all_eq_true]
    exact noSel_spec hsel
  intro perm
  induction perm with
  | nil =>
    intro listed a w hok hS h
    simp only [endP, Option.some.injEq] at hok
    subst hok
    rw [List.length_nil, Nat.zero_add]
    exact hK a w hS h
  | cons p r ih =>
    intro listed a w hok hS h
    obtain ⟨i, q⟩ := p
    cases q with
    | true =>
      simp only [endP] at hok
      split at hok
      · rename_i hq
        simp only [quietOk, Bool.and_eq_true, Bool.not_eq_true'] at hq
        obtain ⟨⟨⟨hlt, hun⟩, hdep⟩, hoth⟩ := hq
        have hlt : i < ops.size := Nat.le_of_ble_eq_true hlt
        have hio : ops[i]? = some (nth ops.toList i) := by
          have := nth_get ops.toList i (by simpa using hlt)
          simpa using this
        obtain ⟨v, hs, hrest2⟩ := h
        rw [show ((i, true) :: r).length + m = (r.length + m) + 1 from by simp only [List.length_cons]; omega]
        refine wpAnyH_firstQ hio (Region.noSelect_spec hns) (fun c a w => hQ c a _ v w) (r.length + m) listed a w ?_ ?_ (by unfold YieldsQ; rw [wantedD_eq hds]; exact hs) hS ?_
        · intro j oj hoj hji hunj hno
          have hl := othersOk_spec hoth j oj (by simpa using hoj) (by omega) (by simpa using hunj)
          rcases hl with h1 | h1
          · obtain ⟨e, he, hb⟩ := waitsFor_iff.1 h1
            exact absurd hb.2 (hno e (by simpa using he) hb.1)
          · exact h1
        · rw [mem_ready]
          exact ⟨hun, _, hio, fun e he hb => depsIn_spec hdep e (by simpa using he) hb⟩
        · exact ih _ _ _ hok hS hrest2
      · cases hok
    | false =>
      simp only [endP] at hok
      by_cases hq : (Nat.blt i ops.size && onlyIs (Region.ready .any ops listed) i) = true
      · rw [if_pos hq] at hok
        simp only [Bool.and_eq_true] at hq
        obtain ⟨hlt, hrd⟩ := hq
        have hlt : i < ops.size := Nat.le_of_ble_eq_true hlt
        have hio : ops[i]? = some (nth ops.toList i) := by
          have := nth_get ops.toList i (by simpa using hlt)
          simpa using this
        have hrd2 := onlyIs_spec hrd
        simp only [pick, SeqP] at h
        rw [show ((i, false) :: r).length + m = (r.length + m) + 1 from by simp only [List.length_cons]; omega]
        refine ⟨fun h0 => (by rw [hrd2] at h0; cases h0), fun j hj => ?_⟩
        rw [hrd2] at hj
        obtain rfl : j = i := by simpa using hj
        unfold wpOp
        simp only [hio]
        rw [wantedD_eq hds]
        split
        · rename_i hw
          rw [if_pos hw] at h
          exact .inl (Oper.wp_mono (fun a w h => ⟨h.1, ih _ _ _ hok h.1 h.2⟩) h)
        · rename_i hw
          rw [if_neg hw] at h
          exact ⟨h.1, ih _ _ _ hok h.1 h.2⟩
      · rw [if_neg hq] at hok; cases hok

/-- THE RULE. -/
theorem wp_region_p2 {id : Nat} {a : Act} {w : World} (perm p1 p2 : List (Nat × Bool)) (S : World → Prop) (hm : P.follows .mixedOrders = true)
    (hsel : noSel ops.toList = true) (hok : okTwo ops perm p1 p2 = true) (hS : S w.drew) {ds : List (Option Tmp)} (hds : ops.toList.map (·.dst) = ds)
    (h : ∀ (K : Act → World → Prop) (R : Exit → Act → World → Prop) (T : World → Prop), (∀ a w, T w → Q .normal a w → K a w) → (∀ w, T w → S w) → (∀ w, S w → T w) →
      SeqP P ds (fun a w => SeqP P ds K R T (pick ops.toList p1) a w ∧ SeqP P ds K R T (pick ops.toList p2) a w) R T (pick ops.toList perm) a w.drew) :
    (Code.region id ops true).wp P Q a w := by
  refine wp_region_noPanic (wp_region_held (S := S) hm ?_)
  unfold okTwo at hok
  cases hl : endP ops perm (upto ops.size 0) with
  | none => rw [hl] at hok; cases hok
  | some l =>
  rw [hl] at hok
  simp only [Bool.and_eq_true] at hok
  obtain ⟨⟨hl1, hl2⟩, hbr⟩ := hok
  have hl1 := Nat.eq_of_beq_eq_true hl1
  have hl2 := Nat.eq_of_beq_eq_true hl2
  have h1 := wpAnyH_pre (P := P) (S := S) (Q := NoPanic Q) (m := p1.length) (last := l) hds hsel (fun _ _ _ _ _ h => h) (fun a w hS hab => ?_) perm (upto ops.size 0) a w.drew hl hS
    (h (NoPanic Q .normal) (NoPanic Q) S (fun _ _ _ h => h) (fun _ h => h) (fun _ h => h))
  · rw [hl2] at h1
    have h3 : upto ops.size 0 = Array.replicate ops.size false := by
      apply Array.ext
      · simp [upto]
      · intro j _ _; simp [upto]
    rw [h3] at h1
    exact h1
  · obtain ⟨ha, hb⟩ := hab
    cases p1 with
    | nil => cases p2 <;> cases hbr
    | cons x1 r1 =>
    cases p2 with
    | nil => cases hl1
    | cons x2 r2 =>
    obtain ⟨i, q1⟩ := x1
    obtain ⟨j, q2⟩ := x2
    cases q1
    case true => cases hbr
    cases q2
    case true => cases hbr
    cases hr : Region.ready .any ops l with
    | nil => rw [hr] at hbr; cases hbr
    | cons x t =>
    cases t with
    | nil => rw [hr] at hbr; cases hbr
    | cons y t =>
    cases t with
    | cons z t => rw [hr] at hbr; cases hbr
    | nil =>
    rw [hr] at hbr
    simp only [Bool.and_eq_true] at hbr
    obtain ⟨⟨⟨⟨⟨e1, e2⟩, b1⟩, b2⟩, k1⟩, k2⟩ := hbr
    have e1 := Nat.eq_of_beq_eq_true e1
    have e2 := Nat.eq_of_beq_eq_true e2
    subst e1 e2
    have step : ∀ (n : Nat) (r : List (Nat × Bool)), Nat.blt n ops.size = true → okP ops r (l.setIfInBounds n true) = true → r.length = r1.length → SeqP P ds (NoPanic Q .normal) (NoPanic Q) S (pick ops.toList ((n, false) :: r)) a w → wpOp P ops (NoPanic Q) n (fun a w => S w ∧ wpAnyH P .any ops (NoPanic Q) S r1.length (l.setIfInBounds n true) a w) a w := by
      intro n r hlt hok2 hlen h
      have hlt : n < ops.size := Nat.le_of_ble_eq_true hlt
      have hio : ops[n]? = some (nth ops.toList n) := by
        have := nth_get ops.toList n (by simpa using hlt)
        simpa using this
      simp only [pick, SeqP] at h
      unfold wpOp
      simp only [hio]
      rw [wantedD_eq hds]
      have fin := wpAnyH_P (P := P) (S := S) (Q := NoPanic Q) hds hsel (fun _ _ _ _ _ h => h)
      split
      · rename_i hw
        rw [if_pos hw] at h
        exact .inl (Oper.wp_mono (fun a w h => ⟨h.1, hlen ▸ fin _ _ _ _ hok2 h.1 h.2⟩) h)
      · rename_i hw
        rw [if_neg hw] at h
        exact ⟨h.1, hlen ▸ fin _ _ _ _ hok2 h.1 h.2⟩
    refine ⟨fun h0 => (by rw [hr] at h0; cases h0), fun n hn => ?_⟩
    rw [hr] at hn
    rcases List.mem_cons.1 hn with rfl | hn
    · exact step _ r1 b1 k1 rfl ha
    · obtain rfl : n = y := by simpa using hn
      exact step _ r2 b2 k2 (by simpa using hl1.symm) hb
end
end Go.Sq
