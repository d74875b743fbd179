/-
  What a log comes to: plain.
-/
import Derived.Test.YtifeokabecgimaaDeedsSpec
import Derived.Test.YtifeokabecgimaaEnts
set_option linter.unusedSimpArgs false
set_option linter.unusedVariables false
set_option maxRecDepth 100000
namespace Go.Proofs.Ytifeokabecgimaa
open Go.Arch

/-- An outcome: its code, its version, its events. -/
abbrev OutS := Int × Int × List (Int × Int)
def ordOf (e : Ent) : Ord := ⟨e.2.1, e.2.2.1, e.2.2.2.1, e.2.2.2.2.1, e.2.2.2.2.2⟩

/-- Where an ID stands first, among the first j entries. -/
def firstIn (l : List Ent) : Nat → Int → Option Nat
  | 0, _ => none
  | j + 1, a => match firstIn l j a with
    | some k => some k
    | none => if (l[j]?.map (·.2.1)) = some a then some j else none

def dupOf (outs : List OutS) (k : Nat) : OutS := match outs[k]? with
  | some o => (o.1, o.2.1, [])
  | none => (0, 0, [])

def decS (s : St) (o : Ord) : St × OutS :=
  if codeS s o = 1 then (applyS s (evOf o), (1, s.ver + 1, [(o.kind, (evOf o).arg)])) else (s, (codeS s o, verS s o, []))

def stepF (l : List Ent) (j : Nat) (e : Ent) (acc : St × List OutS) : St × List OutS :=
  match firstIn l j e.2.1 with
  | some k => (acc.1, acc.2 ++ [dupOf acc.2 k])
  | none => ((decS acc.1 (ordOf e)).1, acc.2 ++ [(decS acc.1 (ordOf e)).2])

def foldTo (l : List Ent) : Nat → St × List OutS
  | 0 => (⟨0, false, 0, 0⟩, [])
  | j + 1 => match l[j]? with
    | some e => stepF l j e (foldTo l j)
    | none => foldTo l j

def foldS (l : List Ent) : St × List OutS := foldTo l l.length

theorem first_lt (l : List Ent) : ∀ (j : Nat) (a : Int) (k : Nat), firstIn l j a = some k → k < j
  | 0, a, k, h => by simp [firstIn] at h
  | j + 1, a, k, h => by
    unfold firstIn at h
    split at h
    · rename_i k' hk
      cases h
      have := first_lt l j a k hk
      omega
    · split at h
      · cases h; omega
      · cases h
theorem first_succ {l : List Ent} {j : Nat} {e : Ent} (he : l[j]? = some e) (a : Int) : firstIn l (j + 1) a = if firstIn l j a = none ∧ a = e.2.1 then some j else firstIn l j a := by
  conv => lhs; unfold firstIn
  rw [he]
  cases hf : firstIn l j a with
  | some k => simp
  | none =>
    by_cases h : a = e.2.1
    · simp [h]
    · have h' : ¬ e.2.1 = a := fun x => h x.symm
      simp [h, h']
theorem fold_succ {l : List Ent} {j : Nat} {e : Ent} (he : l[j]? = some e) : foldTo l (j + 1) = stepF l j e (foldTo l j) := by
  conv => lhs; unfold foldTo
  rw [he]
theorem fold_dup {l : List Ent} {j k : Nat} {e : Ent} (he : l[j]? = some e) (hf : firstIn l j e.2.1 = some k) : foldTo l (j + 1) = ((foldTo l j).1, (foldTo l j).2 ++ [dupOf (foldTo l j).2 k]) := by
  rw [fold_succ he]; unfold stepF; rw [hf]
theorem fold_new {l : List Ent} {j : Nat} {e : Ent} (he : l[j]? = some e) (hf : firstIn l j e.2.1 = none) :
    foldTo l (j + 1) = ((decS (foldTo l j).1 (ordOf e)).1, (foldTo l j).2 ++ [(decS (foldTo l j).1 (ordOf e)).2]) := by
  rw [fold_succ he]; unfold stepF; rw [hf]
theorem fold_len (l : List Ent) : ∀ j, j ≤ l.length → (foldTo l j).2.length = j
  | 0, _ => rfl
  | j + 1, h => by
    have ih := fold_len l j (by omega)
    have he := List.getElem?_eq_getElem (show j < l.length by omega)
    rw [fold_succ he]
    unfold stepF
    split <;> simp [ih]
end Go.Proofs.Ytifeokabecgimaa
