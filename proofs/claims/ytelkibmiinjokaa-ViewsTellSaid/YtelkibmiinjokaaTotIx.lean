/-
  Totals by a stream's number; what the document's walk has on its way.
-/
import Derived.Test.YtelkibmiinjokaaItems
set_option linter.unusedSimpArgs false
set_option linter.unusedVariables false
set_option maxRecDepth 100000
namespace Go.Proofs.Ytelkibmiinjokaa
open Go Go.RowKit Go.Sq Go.Wd Go.Arch

theorem four {s : Nat} (h : s < 4) : s = 0 ∨ s = 1 ∨ s = 2 ∨ s = 3 := by omega
theorem totv_st (t : Tot) {s : Nat} (h : s < 4) (i : Nat) (hi : i < 4) : (totv t)[s * 4 + i]? = (sv (t.get s))[i]? := by
  obtain rfl | rfl | rfl | rfl := four h <;> obtain rfl | rfl | rfl | rfl := four hi <;> rfl
theorem totv_put (t : Tot) {s : Nat} (h : s < 4) (x : St) : ((((totv t).set (s * 4) (.int .i64 x.tag)).set (s * 4 + 1) (.bool x.closed)).set (s * 4 + 2) (.int .i64 x.sum)).set (s * 4 + 3) (.int .i64 x.ver) = totv (t.put x s) := by
  obtain rfl | rfl | rfl | rfl := four h <;> rfl
theorem get_put (t : Tot) {s : Nat} (h : s < 4) (x : St) : (t.put x s).get s = x := by
  obtain rfl | rfl | rfl | rfl := four h <;> rfl
theorem put_put (t : Tot) {s : Nat} (h : s < 4) (x y : St) : (t.put x s).put y s = t.put y s := by
  obtain rfl | rfl | rfl | rfl := four h <;> rfl
theorem put_sum (t : Tot) {s : Nat} (x : St) (h : s < 4) : (t.put x s).sum = t.sum := by
  obtain rfl | rfl | rfl | rfl := four h <;> rfl

def cntT (l : List Itm) : Tot := ⟨st0, st0, st0, st0, cnt 1 l, cnt 2 l, cnt 3 l, 0⟩
def sumTo (l : List Itm) : Nat → Int
  | 0 => 0
  | s + 1 => wrap64 (sumTo l s + (stOf s l).sum)
/-- The document's totals behind s streams. -/
def outT (l : List Itm) (s : Nat) : Tot :=
  ⟨if 0 < s then stOf 0 l else st0, if 1 < s then stOf 1 l else st0, if 2 < s then stOf 2 l else st0, if 3 < s then stOf 3 l else st0, cnt 1 l, cnt 2 l, cnt 3 l, sumTo l s⟩
theorem outT_zero (l : List Itm) : outT l 0 = cntT l := rfl
theorem outT_start (l : List Itm) {s : Nat} (h : s < 4) : (outT l s).put (stOf s []) s = outT l s := by
  obtain rfl | rfl | rfl | rfl := four h <;> rfl
theorem outT_end (l : List Itm) {s : Nat} (h : s < 4) : { (outT l s).put (stOf s l) s with sum := wrap64 ((outT l s).sum + (stOf s l).sum) } = outT l (s + 1) := by
  obtain rfl | rfl | rfl | rfl := four h <;> rfl
theorem outT_four {l : List Itm} (h : l.all okI = true) : refT l = some (outT l 4) := by
  unfold refT
  rw [if_pos h]
  rfl
theorem refT_none {l : List Itm} {i : Nat} {x : Itm} (hx : l[i]? = some x) (h : okI x = false) : refT l = none := by
  unfold refT
  rw [if_neg]
  intro hl
  have := (List.all_eq_true.1 hl) x (List.mem_of_getElem? hx)
  rw [h] at this
  cases this
theorem all_take {l : List Itm} {j : Nat} {x : Itm} (hx : l[j]? = some x) (h : (l.take j).all okI = true) (ho : okI x = true) : (l.take (j + 1)).all okI = true := by
  rw [List.take_add_one, hx]
  simp [h, ho]
theorem cntT_take {l : List Itm} {j : Nat} {x : Itm} (hx : l[j]? = some x) : cntT (l.take (j + 1)) =
    ⟨st0, st0, st0, st0, if x.code = 1 then wrap64 (cnt 1 (l.take j) + 1) else cnt 1 (l.take j), if x.code = 2 then wrap64 (cnt 2 (l.take j) + 1) else cnt 2 (l.take j), if x.code = 3 then wrap64 (cnt 3 (l.take j) + 1) else cnt 3 (l.take j), 0⟩ := by
  unfold cntT
  rw [List.take_add_one, hx]
  simp only [Option.toList_some, cnt_snoc]
theorem stOf_take {l : List Itm} {j : Nat} {x : Itm} (hx : l[j]? = some x) (s : Int) : stOf s (l.take (j + 1)) = if x.stream = s then foldEv (stOf s (l.take j)) x.evs else stOf s (l.take j) := by
  rw [List.take_add_one, hx]
  exact stOf_snoc _ _ _
end Go.Proofs.Ytelkibmiinjokaa
