/-
  What aggregates decide, in plain Lean: no program in sight.
-/
import Derived.WalkKit
set_option linter.unusedSimpArgs false
set_option linter.unusedVariables false
set_option maxRecDepth 100000
namespace Go.Arch

structure St where
  tag : Int
  closed : Bool
  sum : Int
  ver : Int
structure Ev where
  kind : Int
  arg : Int
structure Ord where
  id : Int
  stream : Int
  expect : Int
  kind : Int
  arg : Int

def leastS (t : Int) : Int := if t = 1 then -1099511627776 else 0
def mayS (s : St) : Bool := decide ((s.tag = 0 ∧ s.closed = false ∧ s.sum = 0 ∧ s.ver = 0) ∨
  (1 ≤ s.tag ∧ s.tag ≤ 3 ∧ leastS s.tag ≤ s.sum ∧ s.sum ≤ 1099511627776 ∧ 1 ≤ s.ver ∧ s.ver ≤ 1099511627776 ∧ (s.closed = true → s.sum = 0)))
def comesS (s : St) (e : Ev) : Bool := decide (s.ver < 1099511627776 ∧ s.closed = false ∧
  ((e.kind = 1 ∧ s.tag = 0 ∧ 1 ≤ e.arg ∧ e.arg ≤ 3) ∨ (e.kind = 2 ∧ s.tag ≠ 0 ∧ 1 ≤ e.arg ∧ e.arg ≤ 1099511627776 - s.sum) ∨
   (e.kind = 3 ∧ (s.tag = 1 ∨ s.tag = 2) ∧ 1 ≤ e.arg ∧ e.arg ≤ s.sum - leastS s.tag) ∨ (e.kind = 4 ∧ s.tag ≠ 0 ∧ s.sum = 0 ∧ e.arg = 0)))
def applyS (s : St) (e : Ev) : St :=
  if mayS s = true ∧ comesS s e = true then
    { tag := if e.kind = 1 then e.arg else s.tag, closed := if e.kind = 4 then true else s.closed,
      sum := if e.kind = 2 then s.sum + e.arg else if e.kind = 3 then s.sum - e.arg else s.sum, ver := s.ver + 1 }
  else s
def ordOk (o : Ord) : Bool := decide (1 ≤ o.id ∧ o.id ≤ 2147483647 ∧ 0 ≤ o.stream ∧ o.stream ≤ 3 ∧ -1 ≤ o.expect ∧ o.expect ≤ 2147483647 ∧ 1 ≤ o.kind ∧ o.kind ≤ 4 ∧ -1048576 ≤ o.arg ∧ o.arg ≤ 1048576)
def evOf (o : Ord) : Ev := ⟨o.kind, if o.kind = 4 then 0 else o.arg⟩
/-- What an order comes to: 1 accepted, 2 conflict, 3 rejected, 7 malformed. -/
def codeS (s : St) (o : Ord) : Int :=
  if mayS s = true ∧ ordOk o = true then if 0 ≤ o.expect ∧ o.expect ≠ s.ver then 2 else if comesS s (evOf o) = true then 1 else 3 else 7
def verS (s : St) (o : Ord) : Int := if mayS s = true then (if codeS s o = 1 then s.ver + 1 else s.ver) else 0

/-- api.ErrArg where it may not be. -/
def errOf (b : Bool) : Int := if b = true then 0 else 2
theorem ret_st {p q : St} (h : p = q) : Ending.returned (.agg #[.int .i64 p.tag, .bool p.closed, .int .i64 p.sum, .int .i64 p.ver]) = .returned (.agg #[.int .i64 q.tag, .bool q.closed, .int .i64 q.sum, .int .i64 q.ver]) := by rw [h]
theorem mayS_zero {s : St} (h : s.tag < 1 ∨ 3 < s.tag) : mayS s = decide (s.tag = 0 ∧ s.closed = false ∧ s.sum = 0 ∧ s.ver = 0) := by
  unfold mayS; rw [decide_eq_decide]; constructor
  · rintro (h1 | h1)
    · exact h1
    · omega
  · exact fun h => .inl h
theorem mayS_some {s : St} (h : 1 ≤ s.tag ∧ s.tag ≤ 3) : mayS s = decide (leastS s.tag ≤ s.sum ∧ s.sum ≤ 1099511627776 ∧ 1 ≤ s.ver ∧ s.ver ≤ 1099511627776 ∧ (s.closed = true → s.sum = 0)) := by
  unfold mayS; rw [decide_eq_decide]; constructor
  · rintro (h1 | h1)
    · omega
    · exact h1.2.2
  · exact fun h' => .inr ⟨h.1, h.2, h'⟩
theorem applyS_1 (s v k a : Int) (hm : mayS ⟨1, false, s, v⟩ = true) (hv : v ≠ 1099511627776) : applyS ⟨1, false, s, v⟩ ⟨k, a⟩ =
    if k = 2 ∧ 1 ≤ a ∧ a ≤ 1099511627776 - s then ⟨1, false, s + a, v + 1⟩ else if k = 3 ∧ 1 ≤ a ∧ a ≤ s + 1099511627776 then ⟨1, false, s - a, v + 1⟩
    else if k = 4 ∧ a = 0 ∧ s = 0 then ⟨1, true, s, v + 1⟩ else ⟨1, false, s, v⟩ := by
  have hb := hm
  rw [mayS_some (by simp)] at hb
  simp [leastS] at hb
  obtain ⟨b1, b2, b3, b4⟩ := hb
  have hc : comesS ⟨1, false, s, v⟩ ⟨k, a⟩ = decide ((k = 2 ∧ 1 ≤ a ∧ a ≤ 1099511627776 - s) ∨ (k = 3 ∧ 1 ≤ a ∧ a ≤ s + 1099511627776) ∨ (k = 4 ∧ s = 0 ∧ a = 0)) := by
    unfold comesS
    rw [decide_eq_decide]
    simp [leastS]
    omega
  unfold applyS
  rw [hc, hm]
  simp only [true_and, decide_eq_true_eq]
  by_cases h2 : k = 2
  · subst h2
    by_cases h : 1 ≤ a ∧ a ≤ 1099511627776 - s <;> simp [h]
  · by_cases h3 : k = 3
    · subst h3
      by_cases h : 1 ≤ a ∧ a ≤ s + 1099511627776 <;> simp [h]
    · by_cases h4 : k = 4
      · subst h4
        by_cases h : s = 0 ∧ a = 0
        · simp [h]
        · have h' : ¬ (a = 0 ∧ s = 0) := fun x => h ⟨x.2, x.1⟩
          simp [h, h']
      · simp [h2, h3, h4]
theorem applyS_2 (s v k a : Int) (hm : mayS ⟨2, false, s, v⟩ = true) (hv : v ≠ 1099511627776) : applyS ⟨2, false, s, v⟩ ⟨k, a⟩ =
    if k = 2 ∧ 1 ≤ a ∧ a ≤ 1099511627776 - s then ⟨2, false, s + a, v + 1⟩ else if k = 3 ∧ 1 ≤ a ∧ a ≤ s then ⟨2, false, s - a, v + 1⟩
    else if k = 4 ∧ a = 0 ∧ s = 0 then ⟨2, true, s, v + 1⟩ else ⟨2, false, s, v⟩ := by
  have hb := hm
  rw [mayS_some (by simp)] at hb
  simp [leastS] at hb
  obtain ⟨b1, b2, b3, b4⟩ := hb
  have hc : comesS ⟨2, false, s, v⟩ ⟨k, a⟩ = decide ((k = 2 ∧ 1 ≤ a ∧ a ≤ 1099511627776 - s) ∨ (k = 3 ∧ 1 ≤ a ∧ a ≤ s) ∨ (k = 4 ∧ s = 0 ∧ a = 0)) := by
    unfold comesS
    rw [decide_eq_decide]
    simp [leastS]
    omega
  unfold applyS
  rw [hc, hm]
  simp only [true_and, decide_eq_true_eq]
  by_cases h2 : k = 2
  · subst h2
    by_cases h : 1 ≤ a ∧ a ≤ 1099511627776 - s <;> simp [h]
  · by_cases h3 : k = 3
    · subst h3
      by_cases h : 1 ≤ a ∧ a ≤ s <;> simp [h]
    · by_cases h4 : k = 4
      · subst h4
        by_cases h : s = 0 ∧ a = 0
        · simp [h]
        · have h' : ¬ (a = 0 ∧ s = 0) := fun x => h ⟨x.2, x.1⟩
          simp [h, h']
      · simp [h2, h3, h4]
theorem applyS_3 (s v k a : Int) (hm : mayS ⟨3, false, s, v⟩ = true) (hv : v ≠ 1099511627776) : applyS ⟨3, false, s, v⟩ ⟨k, a⟩ =
    if k = 2 ∧ 1 ≤ a ∧ a ≤ 1099511627776 - s then ⟨3, false, s + a, v + 1⟩ else if k = 3 ∧ 1 ≤ a ∧ a ≤ 0 then ⟨3, false, s - a, v + 1⟩
    else if k = 4 ∧ a = 0 ∧ s = 0 then ⟨3, true, s, v + 1⟩ else ⟨3, false, s, v⟩ := by
  have hb := hm
  rw [mayS_some (by simp)] at hb
  simp [leastS] at hb
  obtain ⟨b1, b2, b3, b4⟩ := hb
  have hc : comesS ⟨3, false, s, v⟩ ⟨k, a⟩ = decide ((k = 2 ∧ 1 ≤ a ∧ a ≤ 1099511627776 - s) ∨ (k = 3 ∧ 1 ≤ a ∧ a ≤ 0) ∨ (k = 4 ∧ s = 0 ∧ a = 0)) := by
    unfold comesS
    rw [decide_eq_decide]
    simp [leastS]
    omega
  unfold applyS
  rw [hc, hm]
  simp only [true_and, decide_eq_true_eq]
  by_cases h2 : k = 2
  · subst h2
    by_cases h : 1 ≤ a ∧ a ≤ 1099511627776 - s <;> simp [h]
  · by_cases h3 : k = 3
    · subst h3
      by_cases h : 1 ≤ a ∧ a ≤ 0 <;> simp [h]
    · by_cases h4 : k = 4
      · subst h4
        by_cases h : s = 0 ∧ a = 0
        · simp [h]
        · have h' : ¬ (a = 0 ∧ s = 0) := fun x => h ⟨x.2, x.1⟩
          simp [h, h']
      · simp [h2, h3, h4]
theorem applyS_0 (k a : Int) : applyS ⟨0, false, 0, 0⟩ ⟨k, a⟩ = if k = 1 ∧ 1 ≤ a ∧ a ≤ 3 then ⟨a, false, 0, 1⟩ else ⟨0, false, 0, 0⟩ := by
  have hm : mayS ⟨0, false, 0, 0⟩ = true := by simp [mayS]
  have hc : comesS ⟨0, false, 0, 0⟩ ⟨k, a⟩ = decide (k = 1 ∧ 1 ≤ a ∧ a ≤ 3) := by
    unfold comesS
    rw [decide_eq_decide]
    simp
  unfold applyS
  rw [hc, hm]
  simp only [true_and, decide_eq_true_eq]
  by_cases h : k = 1 ∧ 1 ≤ a ∧ a ≤ 3
  · obtain ⟨rfl, h⟩ := h
    simp [h]
  · simp [h]
theorem applyS_same {t s v k a : Int} {c : Bool} (h : mayS ⟨t, c, s, v⟩ = false ∨ c = true ∨ v = 1099511627776) : applyS ⟨t, c, s, v⟩ ⟨k, a⟩ = ⟨t, c, s, v⟩ := by
  unfold applyS
  rw [if_neg]
  rintro ⟨h1, h2⟩
  rcases h with h | rfl | rfl
  · rw [h1] at h; cases h
  · simp [comesS] at h2
  · simp [comesS] at h2
end Go.Arch
