/-
  What views come to, in plain Lean: totals item by item, and each number counted for itself.
-/
import Derived.Test.YtelkibmiinjokaaDeedsSpec
set_option linter.unusedSimpArgs false
set_option linter.unusedVariables false
set_option maxRecDepth 100000
namespace Go.Arch
open Go Go.RowKit

structure Itm where
  stream : Int
  index : Int
  id : Int
  st : Int
  ex : Int
  kd : Int
  ar : Int
  code : Int
  ver : Int
  sl : Option Addr × Nat × Nat
  evs : List (Int × Int)
structure Tot where
  s0 : St
  s1 : St
  s2 : St
  s3 : St
  acc : Int
  con : Int
  rej : Int
  sum : Int
def st0 : St := ⟨0, false, 0, 0⟩
def tot0 : Tot := ⟨st0, st0, st0, st0, 0, 0, 0, 0⟩
def foldEv (s : St) (l : List (Int × Int)) : St := l.foldl (fun s e => applyS s ⟨e.1, e.2⟩) s
def Tot.get (t : Tot) : Nat → St
  | 0 => t.s0
  | 1 => t.s1
  | 2 => t.s2
  | _ => t.s3
def Tot.put (t : Tot) (s : St) : Nat → Tot
  | 0 => { t with s0 := s }
  | 1 => { t with s1 := s }
  | 2 => { t with s2 := s }
  | _ => { t with s3 := s }
def Tot.code (t : Tot) (c : Int) : Option Tot :=
  if c = 1 then some { t with acc := wrap64 (t.acc + 1) } else if c = 2 then some { t with con := wrap64 (t.con + 1) } else if c = 3 then some { t with rej := wrap64 (t.rej + 1) } else none
def stepN (t : Tot) (k : Nat) (x : Itm) : Option Tot :=
  let s := foldEv (t.get k) x.evs
  Tot.code { t.put s k with sum := wrap64 (t.sum + wrap64 (s.sum - (t.get k).sum)) } x.code
def vstepT (t : Tot) (x : Itm) : Option Tot := if x.stream < 0 ∨ 4 ≤ x.stream then none else stepN t x.stream.toNat x
def atFrom (t : Tot) (l : List Itm) : Option Tot := l.foldl (fun o x => o.bind fun t => vstepT t x) (some t)
def atT (l : List Itm) : Option Tot := atFrom tot0 l
/-- What is told: totals, and an error. -/
def totR (o : Option Tot) : Tot × Int := match o with | some t => (t, 0) | none => (tot0, 2)

/-- Is it an item? -/
def okI (x : Itm) : Bool := decide (0 ≤ x.stream ∧ x.stream < 4 ∧ (x.code = 1 ∨ x.code = 2 ∨ x.code = 3))
def cnt (c : Int) (l : List Itm) : Int := l.foldl (fun n x => if x.code = c then wrap64 (n + 1) else n) 0
def stOf (s : Int) (l : List Itm) : St := l.foldl (fun st x => if x.stream = s then foldEv st x.evs else st) st0
def refT (l : List Itm) : Option Tot :=
  if l.all okI = true then some ⟨stOf 0 l, stOf 1 l, stOf 2 l, stOf 3 l, cnt 1 l, cnt 2 l, cnt 3 l, wrap64 (wrap64 (wrap64 (wrap64 (0 + (stOf 0 l).sum) + (stOf 1 l).sum) + (stOf 2 l).sum) + (stOf 3 l).sum)⟩ else none

theorem atT_snoc (l : List Itm) (x : Itm) : atT (l ++ [x]) = (atT l).bind fun t => vstepT t x := by simp [atT, atFrom]
theorem cnt_snoc (c : Int) (l : List Itm) (x : Itm) : cnt c (l ++ [x]) = if x.code = c then wrap64 (cnt c l + 1) else cnt c l := by simp [cnt]
theorem stOf_snoc (s : Int) (l : List Itm) (x : Itm) : stOf s (l ++ [x]) = if x.stream = s then foldEv (stOf s l) x.evs else stOf s l := by simp [stOf]
theorem w64_add (a b : Int) : wrap64 (a + wrap64 b) = wrap64 (a + b) := by simp only [wrap64]; omega
theorem w64_add' (a b : Int) : wrap64 (wrap64 a + b) = wrap64 (a + b) := by simp only [wrap64]; omega

theorem okI_iff (x : Itm) : okI x = true ↔ 0 ≤ x.stream ∧ x.stream < 4 ∧ (x.code = 1 ∨ x.code = 2 ∨ x.code = 3) := by unfold okI; exact decide_eq_true_iff
theorem at_ref_aux (r : List Itm) : atT r.reverse = refT r.reverse := by
  induction r with
  | nil => simp [atT, atFrom, refT, stOf, cnt, tot0, st0, wrap64]
  | cons x r ih =>
    rw [List.reverse_cons, atT_snoc, ih]
    generalize r.reverse = l
    unfold refT
    simp only [List.all_append, List.all_cons, List.all_nil, Bool.and_true, cnt_snoc, stOf_snoc]
    by_cases hl : l.all okI = true
    · rw [if_pos hl, hl, Bool.true_and]
      by_cases hx : okI x = true
      · rw [if_pos hx]
        obtain ⟨h0, h1, hc⟩ := (okI_iff x).1 hx
        have hs : x.stream = 0 ∨ x.stream = 1 ∨ x.stream = 2 ∨ x.stream = 3 := by omega
        show vstepT _ x = _
        rcases hs with hs | hs | hs | hs <;> rcases hc with hc | hc | hc <;>
          (simp [vstepT, stepN, hs, hc, Tot.get, Tot.put, Tot.code, w64_add, w64_add']; try (congr 1; omega))
      · rw [if_neg hx]
        show vstepT _ x = none
        unfold vstepT
        by_cases h : x.stream < 0 ∨ 4 ≤ x.stream
        · rw [if_pos h]
        · rw [if_neg h]
          have hc : ¬ (x.code = 1 ∨ x.code = 2 ∨ x.code = 3) := fun hc => hx ((okI_iff x).2 ⟨by omega, by omega, hc⟩)
          unfold stepN Tot.code
          rw [if_neg (fun h => hc (.inl h)), if_neg (fun h => hc (.inr (.inl h))), if_neg (fun h => hc (.inr (.inr h)))]
    · rw [if_neg hl]
      have hl' : l.all okI = false := by simpa using hl
      rw [hl', Bool.false_and]
      rfl
theorem at_ref (l : List Itm) : atT l = refT l := by
  have h := at_ref_aux l.reverse
  rwa [List.reverse_reverse] at h
end Go.Arch
