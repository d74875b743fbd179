/-
  A region that draws its order and holds an 'alloc' that may come up anywhere among the steps ahead of it.
-/
import Derived.Test.YtigkfekidmjpbaaSeq
set_option linter.unusedSimpArgs false
set_option linter.unusedVariables false
namespace Go.Sq
open Go Go.RowKit

/-! ### An 'alloc' that may come up anywhere among the steps ahead of it -/
section
variable {P : Program} {ops : Array Oper} {Q : Exit → Act → World → Prop} {md : Region.Mode} {S : World → Prop}

/-- The operation comes to v, S holds behind it, and memory that was there is as it was. -/
def StepB (P : Program) (ops : Array Oper) (S : World → Prop) (o : Oper) (v : Value) (a : Act) : Prop :=
  (Region.wanted o (yielded ops a.tmps) = true ∧ ∀ w, S w → Gives P (fun w' => S w' ∧ Below w.heap.size w w') o v a.eval w) ∨
  (Region.wanted o (yielded ops a.tmps) = false ∧ v = undef)

theorem StepB.of_same {o : Oper} {v : Value} {a a' : Act} (hy : StepB P ops S o v a) (he : execOp a'.eval o = execOp a.eval o)
    (hw : Region.wanted o (yielded ops a'.tmps) = Region.wanted o (yielded ops a.tmps)) : StepB P ops S o v a' := by
  unfold StepB Gives at *
  rw [he, hw]
  exact hy

theorem StepB.wpOp {i : Nat} {o : Oper} {v : Value} {a : Act} (hi : ops[i]? = some o) (hy : StepB P ops S o v a)
    {K : Act → World → Prop} {w : World} (hS : S w) (h : ∀ w', S w' → Below w.heap.size w w' → K (a.put o.dst v) w') : wpOp P ops Q i K a w := by
  unfold Go.wpOp
  simp only [hi]
  rcases hy with ⟨hw, hv⟩ | ⟨hw, rfl⟩
  · simp only [hw, if_true]; exact .inl ((hv w hS).wp fun w' h' => h w' h'.1 h'.2)
  · simp only [hw, Bool.false_eq_true, if_false]; exact h w hS (Below.refl _ _)

/-- Whatever order is picked of those ahead of k. -/
def AnyX (P : Program) (md : Region.Mode) (ops : Array Oper) (S : World → Prop) (k : Nat) (R : Array Bool → Act → Prop) : Nat → Array Bool → Act → Prop
  | 0, listed, a => R listed a
  | fuel + 1, listed, a => (∃ i, i ∈ Region.ready md ops listed ∧ i ≠ k) ∧
    ∀ i ∈ Region.ready md ops listed, i ≠ k → ∃ o v, ops[i]? = some o ∧ StepB P ops S o v a ∧ AnyX P md ops S k R fuel (listed.setIfInBounds i true) (a.put o.dst v)

/-- None behind k may come up before all up to k have; none ahead of k waits for k. -/
def tailX (k : Nat) : List Oper → Bool
  | [] => true
  | o :: l => (o.after.toList.any (fun e => binds' e && Nat.ble (k + 1) e.on) || (List.range k).all fun i => waitsFor i o.after.toList) && tailX k l
theorem tailX_spec {k : Nat} : ∀ {l : List Oper}, tailX k l = true → ∀ o ∈ l, (o.after.toList.any (fun e => binds' e && Nat.ble (k + 1) e.on) = true) ∨ ∀ i, i < k → waitsFor i o.after.toList = true
  | [], _ => by simp
  | x :: l, h => by
    simp only [tailX, Bool.and_eq_true, Bool.or_eq_true, List.all_eq_true, List.mem_range] at h
    intro o ho
    rcases List.mem_cons.1 ho with rfl | ho
    · exact h.1
    · exact tailX_spec h.2 o ho
def closedX (ops : Array Oper) (k : Nat) : Bool := tailX k (ops.toList.drop (k + 1))

theorem ready_ltX {k : Nat} {listed : Array Bool} (hc : closedX ops k = true) (hl : ∀ j, k ≤ j → listed.getD j false = false)
    {i : Nat} (hik : i < k) (hi : listed.getD i true = false) {j : Nat} (hj : j ∈ Region.ready .any ops listed) (hjk : j ≠ k) : j < k := by
  obtain ⟨hjun, oj, hoj, hall⟩ := mem_ready.1 hj
  have hlt : j < ops.size := (Array.getElem?_eq_some_iff.1 hoj).1
  rcases Nat.lt_or_ge j k with h | h
  · exact h
  exfalso
  have hm : oj ∈ ops.toList.drop (k + 1) := by
    rw [List.mem_iff_getElem?]
    refine ⟨j - (k + 1), ?_⟩
    rw [List.getElem?_drop, show k + 1 + (j - (k + 1)) = j from by omega]
    simpa using hoj
  have hi' : listed.getD i false = false := by
    have hlt : i < listed.size := by
      rcases Nat.lt_or_ge i listed.size with h | h
      · exact h
      · simp [Array.getElem?_eq_none h] at hi
    simp [hlt] at hi ⊢
    exact hi
  rcases tailX_spec hc _ hm with h | h
  · obtain ⟨e, he, hb⟩ := List.any_eq_true.1 h
    simp only [Bool.and_eq_true, binds'_eq, Nat.ble_eq] at hb
    have := hall e (by simpa using he) hb.1
    rw [hl _ (by omega)] at this
    cases this
  · obtain ⟨e, he, hb⟩ := waitsFor_iff.1 (h i hik)
    have := hall e (by simpa using he) hb.1
    rw [hb.2, hi'] at this
    cases this

theorem AnyX_first {R : Array Bool → Act → Prop} {k i : Nat} {oi : Oper} {v : Value} (hi : ops[i]? = some oi) (hik : i < k) (hc : closedX ops k = true)
    (hsel : ∀ (j : Nat) (o : Oper) cs b, ops[j]? = some o → o.op ≠ .select cs b) :
    ∀ (fuel : Nat) (listed : Array Bool) (a : Act), left k listed = fuel + 1 → (∀ j, k ≤ j → listed.getD j false = false) →
      (∀ j oj, ops[j]? = some oj → j ≠ i → listed.getD j true = false → (∀ e ∈ oj.after, Region.binds .any e = true → e.on ≠ i) → oi.apart ops oj = true) →
      i ∈ Region.ready .any ops listed → StepB P ops S oi v a →
      AnyX P .any ops S k R fuel (listed.setIfInBounds i true) (a.put oi.dst v) → AnyX P .any ops S k R (fuel + 1) listed a := by
  intro fuel
  induction fuel with
  | zero =>
    intro listed a hleft hl _ hr hy H
    refine ⟨⟨i, hr, by omega⟩, fun j hj hjne => ?_⟩
    have hiu := (mem_ready.1 hr).1
    have hju := (mem_ready.1 hj).1
    have hjk := ready_ltX hc hl hik hiu hj hjne
    have : j = i := by
      by_cases hne : i = j
      · exact hne.symm
      · have := countP_two (p := fun i => !listed.getD i true) hne (by simp only [hiu, Bool.not_false]) (by simp only [hju, Bool.not_false]) (List.range k) (List.mem_range.2 hik) (List.mem_range.2 hjk)
        unfold left at hleft; omega
    subst this
    exact ⟨oi, v, hi, hy, H⟩
  | succ fuel ih =>
    intro listed a hleft hl hfree hr hy H
    refine ⟨⟨i, hr, by omega⟩, fun j hj hjne => ?_⟩
    by_cases hji : j = i
    · subst hji; exact ⟨oi, v, hi, hy, H⟩
    · obtain ⟨oj, u, hoj', hyj, Hj⟩ := H.2 j (ready_mono hj hji) hjne
      obtain ⟨hjun, oj', hoj, hall⟩ := mem_ready.1 hj
      obtain rfl : oj = oj' := by rw [hoj] at hoj'; cases hoj'; rfl
      have hjk := ready_ltX hc hl hik (mem_ready.1 hr).1 hj hjne
      have hnot : ∀ e ∈ oj.after, Region.binds .any e = true → e.on ≠ i := fun e he hb heq => by
        have h1 := hall e he hb
        have h0 := (mem_ready.1 hr).1
        rw [heq] at h1
        rcases Nat.lt_or_ge i listed.size with h' | h'
        · simp [h'] at h0 h1; rw [h0] at h1; cases h1
        · simp [Array.getElem?_eq_none h'] at h1
      obtain ⟨h1, h2, h3⟩ := Oper.apart_spec (hfree j oj hoj hji hjun hnot)
      have hyj' : StepB P ops S oj u a := hyj.of_same (execOp_put oj (fun cs b => hsel j oj cs b hoj) a oi.dst v h1).symm (wanted_put oj a oi.dst v h1).symm
      have hyi' : StepB P ops S oi v (a.put oj.dst u) := hy.of_same (execOp_put oi (fun cs b => hsel i oi cs b hi) a oj.dst u h3) (wanted_put oi a oj.dst u h3)
      refine ⟨oj, u, hoj, hyj', ?_⟩
      have hfree' : ∀ k ok, ops[k]? = some ok → k ≠ i → (listed.setIfInBounds j true).getD k true = false →
          (∀ e ∈ ok.after, Region.binds .any e = true → e.on ≠ i) → oi.apart ops ok = true := fun k ok hk hki hun hno => by
        refine hfree k ok hk hki ?_ hno
        by_cases hjk : j = k
        · subst hjk; exact hjun
        · rw [getD_set_ne true hjk] at hun; exact hun
      have hl' : ∀ m, k ≤ m → (listed.setIfInBounds j true).getD m false = false := fun m hm => by rw [getD_set_ne false (by omega)]; exact hl m hm
      have hleft' := left_set hjk hjun
      refine ih (listed.setIfInBounds j true) (a.put oj.dst u) (by omega) hl' hfree' (ready_mono hr (Ne.symm hji)) hyi' ?_
      rw [Array.setIfInBounds_comm _ _ hji, ← Act.put_comm a v u h2]
      exact Hj

/-- The walk over the steps ahead of the 'alloc'. -/
def SeqB (P : Program) (ds : List (Option Tmp)) (S : World → Prop) (K : Act → Prop) : List Oper → Act → Prop
  | [], a => K a
  | o :: rest, a => ∃ v, ((wantedD ds o a.tmps = true ∧ ∀ w, S w → Gives P (fun w' => S w' ∧ Below w.heap.size w w') o v a.eval w) ∨ (wantedD ds o a.tmps = false ∧ v = undef)) ∧ SeqB P ds S K rest (a.put o.dst v)

theorem anyX_of_seq {ds : List (Option Tmp)} (hds : ops.toList.map (·.dst) = ds) {R : Act → Prop} {k : Nat} (hsel : noSel ops.toList = true) (hsq : seqOk ops k 0 ops.toList = true)
    (hc : closedX ops k = true) (hk : k ≤ ops.size) : ∀ (m i : Nat) (a : Act), i + m = k →
    SeqB P ds S R ((ops.toList.drop i).take m) a → AnyX P .any ops S k (fun l a => l = upto ops.size k ∧ R a) m (upto ops.size i) a := by
  have hns : Region.noSelect ops = true := by
    unfold Region.noSelect
    rw [← Array.all_toList, List.all_eq_true]
    exact noSel_spec hsel
  obtain ⟨_, hall⟩ := seqOk_spec k 0 _ hsq
  intro m
  induction m with
  | zero => intro i a hi h; simp at hi; subst hi; exact ⟨rfl, by simpa [SeqB] using h⟩
  | succ m ih =>
    intro i a hi h
    have hlt : i < ops.size := by omega
    have hd : ops.toList.drop i = ops[i] :: ops.toList.drop (i + 1) := by
      rw [List.drop_eq_getElem_cons (by simpa using hlt)]; simp
    rw [hd, List.take_succ_cons] at h
    obtain ⟨v, hs, hrest⟩ := h
    have hio : ops[i]? = some ops[i] := Array.getElem?_eq_getElem hlt
    obtain ⟨o, ho, hb, hr⟩ := hall i (by omega)
    obtain rfl : o = ops[i] := by
      have : ops.toList[i]? = some ops[i] := by simp [hlt]
      rw [this] at ho; cases ho; rfl
    simp only [Nat.zero_add] at hb hr
    refine AnyX_first hio (show i < k by omega) hc (Region.noSelect_spec hns) m (upto ops.size i) a ?_ ?_ ?_ ?_ (by unfold StepB; rw [wantedD_eq hds]; exact hs) ?_
    · rw [left_upto hk i (by omega)]; omega
    · intro j hj
      rcases Nat.lt_or_ge j ops.size with h' | h'
      · rw [upto_get false h']; simp; omega
      · simp [upto, h']
    · intro j oj hoj hji hun hno
      have hjlt : j < ops.size := (Array.getElem?_eq_some_iff.1 hoj).1
      have hij : i < j := by
        rw [upto_get true hjlt] at hun
        simp at hun; omega
      rcases hr j oj hij (by simpa using hoj) with h | h
      · obtain ⟨e, he, hb⟩ := waitsFor_iff.1 h
        exact absurd hb.2 (hno e (by simpa using he) hb.1)
      · exact h
    · rw [mem_ready]
      refine ⟨by rw [upto_get true hlt]; simp, ops[i], hio, fun e he hbd => ?_⟩
      have := allBelow_iff.1 hb e (by simpa using he) hbd
      rw [upto_get false (by omega)]
      simp [this]
    · rw [upto_set hlt]
      exact ih (i + 1) _ (by omega) hrest

/-- With the 'alloc' behind us: its block is whole. -/
theorem wpAny_afterX {k b : Nat} {ok : Oper} {obj : Obj} (hok : ops[k]? = some ok) (hcl : closedX ops k = true)
    (hap : ∀ j oj, ops[j]? = some oj → j < k → ok.apart ops oj = true) (hno : ∀ j oj, ops[j]? = some oj → j < k → ∀ e ∈ oj.after, Region.binds .any e = true → e.on ≠ k)
    (hsel : ∀ (j : Nat) (o : Oper) cs b, ops[j]? = some o → o.op ≠ .select cs b) {R : Act → Prop} {n : Nat}
    (hR : ∀ a, R a → ∀ w, S w → w.heap[b]? = some obj → wpAny P .any ops Q n (upto ops.size (k + 1)) (a.put ok.dst (.pointer (some ⟨b, 0, none⟩))) w) :
    ∀ (m : Nat) (listed : Array Bool) (a : Act), left k listed = m → (∀ j, k ≤ j → listed.getD j false = false) → AnyX P .any ops S k (fun l a => l = upto ops.size k ∧ R a) m listed a →
      ∀ w, S w → w.heap[b]? = some obj → wpAny P .any ops Q (m + n) (listed.setIfInBounds k true) (a.put ok.dst (.pointer (some ⟨b, 0, none⟩))) w := by
  have hkn : k < ops.size := (Array.getElem?_eq_some_iff.1 hok).1
  intro m
  induction m with
  | zero =>
    intro listed a _ _ h w hw hb
    obtain ⟨rfl, hRa⟩ := h
    rw [Nat.zero_add, upto_set hkn]
    exact hR a hRa w hw hb
  | succ m ih =>
    intro listed a hleft hl h w hw hb
    rw [show m + 1 + n = (m + n) + 1 from by omega]
    obtain ⟨⟨i0, hi0, hi0k⟩, hstep⟩ := h
    refine ⟨fun h0 => ?_, fun i hi => ?_⟩
    · have := ready_mono hi0 hi0k
      rw [h0] at this; cases this
    · obtain ⟨hiun, oi, hoi, hall⟩ := mem_ready.1 hi
      have hik : i ≠ k := by
        rintro rfl
        rcases Nat.lt_or_ge i listed.size with h | h
        · simp [h] at hiun
        · simp [Array.getElem?_eq_none h] at hiun
      have hiun' : listed.getD i true = false := by rw [getD_set_ne true (Ne.symm hik)] at hiun; exact hiun
      -- it lies ahead of k
      have hilt : i < k := by
        rcases Nat.lt_or_ge i k with h | h
        · exact h
        exfalso
        have hm : oi ∈ ops.toList.drop (k + 1) := by
          rw [List.mem_iff_getElem?]
          refine ⟨i - (k + 1), ?_⟩
          rw [List.getElem?_drop, show k + 1 + (i - (k + 1)) = i from by omega]
          simpa using hoi
        obtain ⟨j, hjk, hju⟩ : ∃ j, j < k ∧ listed.getD j true = false := by
          have hp : 0 < left k listed := by omega
          unfold left at hp
          obtain ⟨j, hj1, hj2⟩ := List.countP_pos_iff.1 hp
          exact ⟨j, List.mem_range.1 hj1, by simpa using hj2⟩
        rcases tailX_spec hcl _ hm with h' | h'
        · obtain ⟨e, he, hb'⟩ := List.any_eq_true.1 h'
          simp only [Bool.and_eq_true, binds'_eq, Nat.ble_eq] at hb'
          have h1 := hall e (by simpa using he) hb'.1
          rw [getD_set_ne false (by omega), hl _ (by omega)] at h1
          cases h1
        · obtain ⟨e, he, hb'⟩ := waitsFor_iff.1 (h' j hjk)
          have h1 := hall e (by simpa using he) hb'.1
          rw [hb'.2, getD_set_ne false (by omega)] at h1
          rcases Nat.lt_or_ge j listed.size with h | h
          · simp [h] at hju h1; rw [hju] at h1; cases h1
          · simp [Array.getElem?_eq_none h] at h1
      have hir : i ∈ Region.ready .any ops listed := by
        rw [mem_ready]
        refine ⟨hiun', oi, hoi, fun e he hbd => ?_⟩
        have h1 := hall e he hbd
        rwa [getD_set_ne false (Ne.symm (hno i oi hoi hilt e he hbd))] at h1
      obtain ⟨o, v, ho, hs, hr⟩ := hstep i hir hik
      obtain rfl : o = oi := by rw [hoi] at ho; cases ho; rfl
      obtain ⟨g1, g2, g3⟩ := Oper.apart_spec (hap i o hoi hilt)
      have hs' : StepB P ops S o v (a.put ok.dst (.pointer (some ⟨b, 0, none⟩))) :=
        hs.of_same (execOp_put o (fun cs b => hsel i o cs b hoi) a ok.dst _ g1) (wanted_put o a ok.dst _ g1)
      refine hs'.wpOp hoi hw fun w' hw' hbw => ?_
      have hb' : w'.heap[b]? = some obj := by rw [hbw.block b (by
        rcases Nat.lt_or_ge b w.heap.size with h | h
        · exact h
        · rw [Array.getElem?_eq_none h] at hb; cases hb)]; exact hb
      have hset : left k listed = left k (listed.setIfInBounds i true) + 1 := left_set hilt hiun'
      have := ih (listed.setIfInBounds i true) (a.put o.dst v) (by omega) (fun j hj => by rw [getD_set_ne false (by omega)]; exact hl j hj) hr w' hw' hb'
      rw [Array.setIfInBounds_comm _ _ hik, Act.put_comm a v _ (fun d hd he => g2 d he hd)] at this
      exact this

/-- Wherever the 'alloc' comes up. -/
theorem wpAny_beforeX {k : Nat} {ok : Oper} {obj : Obj} (hok : ops[k]? = some ok) (hcl : closedX ops k = true) (hch : chain .any ops k = true)
    (hap : ∀ j oj, ops[j]? = some oj → j < k → ok.apart ops oj = true) (hno : ∀ j oj, ops[j]? = some oj → j < k → ∀ e ∈ oj.after, Region.binds .any e = true → e.on ≠ k)
    (hsel : ∀ (j : Nat) (o : Oper) cs b, ops[j]? = some o → o.op ≠ .select cs b) (hg : ok.guard = none)
    (hal : ∀ (ρ : Operand → Value) (w : World), (execOp ρ ok).run P w = .ok (.value (.pointer (some ⟨w.heap.size, 0, none⟩))) (w.alloc obj)) (hSal : ∀ w, S w → S (w.alloc obj)) {B : Nat} (hSB : ∀ w, S w → B ≤ w.heap.size) {R : Act → Prop} {n : Nat}
    (hR : ∀ a, R a → ∀ b, B ≤ b → ∀ w, S w → w.heap[b]? = some obj → wpAny P .any ops Q n (upto ops.size (k + 1)) (a.put ok.dst (.pointer (some ⟨b, 0, none⟩))) w) :
    ∀ (m : Nat) (listed : Array Bool) (a : Act), left k listed = m → (∀ j, k ≤ j → listed.getD j false = false) → listed.size = ops.size → AnyX P .any ops S k (fun l a => l = upto ops.size k ∧ R a) m listed a →
      ∀ w, S w → wpAny P .any ops Q (m + n + 1) listed a w := by
  have hkn : k < ops.size := (Array.getElem?_eq_some_iff.1 hok).1
  have hrk : Region.ready .any ops (upto ops.size k) = [k] := by
    simp only [chain, List.all_eq_true, List.mem_range] at hch
    have := hch k hkn
    simp only [Bool.or_eq_true, decide_eq_true_eq, beq_iff_eq] at this
    rcases this with h | h
    · omega
    · exact h
  intro m
  induction m with
  | zero =>
    intro listed a hleft hl hsz h w hw
    have h0 := h
    obtain ⟨rfl, hRa⟩ := h0
    refine ⟨fun h0 => (by rw [hrk] at h0; cases h0), fun i hi => ?_⟩
    rw [hrk] at hi
    obtain rfl : i = k := by simpa using hi
    unfold wpOp
    simp only [hok]
    rw [if_pos (by simp [Region.wanted, hg])]
    refine .inl ?_
    unfold Oper.wp
    rw [hal]
    simp only [Oper.upon]
    have := wpAny_afterX (b := w.heap.size) (Q := Q) (R := R) (n := n) hok hcl hap hno hsel (fun a ha w' hw' hb => hR a ha _ (hSB w hw) w' hw' hb) 0 _ a hleft hl h (w.alloc obj) (hSal w hw) (by show (w.heap.push obj)[w.heap.size]? = _; simp)
    exact this
  | succ m ih =>
    intro listed a hleft hl hsz h w hw
    have h' := h
    obtain ⟨⟨i0, hi0, hi0k⟩, hstep⟩ := h'
    refine ⟨fun h0 => (by rw [h0] at hi0; cases hi0), fun i hi => ?_⟩
    by_cases hik : i = k
    · subst hik
      unfold wpOp
      simp only [hok]
      rw [if_pos (by simp [Region.wanted, hg])]
      refine .inl ?_
      unfold Oper.wp
      rw [hal]
      simp only [Oper.upon]
      exact wpAny_afterX (b := w.heap.size) (Q := Q) (R := R) (n := n) hok hcl hap hno hsel (fun a ha w' hw' hb => hR a ha _ (hSB w hw) w' hw' hb) (m + 1) _ a hleft hl h (w.alloc obj) (hSal w hw) (by show (w.heap.push obj)[w.heap.size]? = _; simp)
    · obtain ⟨o, v, ho, hs, hr⟩ := hstep i hi hik
      refine hs.wpOp ho hw fun w' hw' _ => ?_
      obtain ⟨j, hjk, hju⟩ : ∃ j, j < k ∧ listed.getD j true = false := by
        have hp : 0 < left k listed := by omega
        unfold left at hp
        obtain ⟨j, hj1, hj2⟩ := List.countP_pos_iff.1 hp
        exact ⟨j, List.mem_range.1 hj1, by simpa using hj2⟩
      have hilt := ready_ltX hcl hl hjk hju hi hik
      have hset := left_set hilt (mem_ready.1 hi).1
      have := ih (listed.setIfInBounds i true) (a.put o.dst v) (by omega) (fun j hj => by rw [getD_set_ne false (by omega)]; exact hl j hj) (by simpa using hsz) hr w' hw'
      rw [show m + 1 + n = m + n + 1 from by omega]
      exact this

def apartAll (ops : Array Oper) (o : Oper) (k : Nat) : List Oper → Bool
  | [] => true
  | oj :: l => o.apart ops oj && !waitsFor k oj.after.toList && apartAll ops o k l
theorem apartAll_spec {o : Oper} {k : Nat} : ∀ {l : List Oper}, apartAll ops o k l = true → ∀ oj ∈ l, o.apart ops oj = true ∧ waitsFor k oj.after.toList = false
  | [], _ => by simp
  | x :: l, h => by
    simp only [apartAll, Bool.and_eq_true, Bool.not_eq_true'] at h
    intro oj hj
    rcases List.mem_cons.1 hj with rfl | hj
    · exact h.1
    · exact apartAll_spec h.2 oj hj

/-- THE RULE: k steps (each comes to one value in every world that meets S, keeps S, and leaves old memory as it is), then an 'alloc' that may come up among them, then a chain. -/
theorem wp_region_fl {id : Nat} {a : Act} {w : World} (k n : Nat) {ok : Oper} (obj : Obj) (B : Nat) (S : World → Prop) (hm : P.follows .mixedOrders = true) (hn : k + n + 1 = ops.size) (hok : ops[k]? = some ok)
    (hsel : noSel ops.toList = true) (hsq : seqOk ops k 0 ops.toList = true) (hcl : closedX ops k = true) (hch : chain .any ops k = true) (hap : apartAll ops ok k (ops.toList.take k) = true) (hg : ok.guard = none)
    (hal : ∀ (ρ : Operand → Value) (w : World), (execOp ρ ok).run P w = .ok (.value (.pointer (some ⟨w.heap.size, 0, none⟩))) (w.alloc obj)) (hSal : ∀ w, S w → S (w.alloc obj)) (hSB : ∀ w, S w → B ≤ w.heap.size)
    (hS : S w.drew) {ds : List (Option Tmp)} (hds : ops.toList.map (·.dst) = ds)
    (h : ∀ (K : Act → Prop) (T : World → Prop), (∀ a, (∀ b w, B ≤ b → S w → w.heap[b]? = some obj → wpList P ops Q (ops.toList.drop (k + 1)) (a.put ok.dst (.pointer (some ⟨b, 0, none⟩))) w) → K a) →
      (∀ w, T w → S w) → (∀ w, S w → T w) → SeqB P ds T K (ops.toList.take k) a) : (Code.region id ops true).wp P Q a w := by
  refine wp_region_any hm ?_
  have hns : Region.noSelect ops = true := by
    unfold Region.noSelect
    rw [← Array.all_toList, List.all_eq_true]
    exact noSel_spec hsel
  have hmem : ∀ j oj, ops[j]? = some oj → j < k → oj ∈ ops.toList.take k := fun j oj hj hjk => by
    rw [List.mem_iff_getElem?]
    exact ⟨j, by rw [List.getElem?_take_of_lt hjk]; simpa using hj⟩
  have h1 := anyX_of_seq (P := P) (ops := ops) (S := S) hds hsel hsq hcl (by omega) k 0 a (by omega) (by
    rw [List.drop_zero]
    exact h _ S (fun _ h => h) (fun _ h => h) fun _ h => h)
  have hleft : left k (upto ops.size 0) = k := by rw [left_upto (by omega) 0 (by omega)]; omega
  have h2 := wpAny_beforeX (P := P) (ops := ops) (Q := Q) (S := S) (n := n) hok hcl hch (fun j oj hj hjk => (apartAll_spec hap _ (hmem j oj hj hjk)).1)
    (fun j oj hj hjk e he hbd hek => by
      have := (apartAll_spec hap _ (hmem j oj hj hjk)).2
      rw [Bool.eq_false_iff] at this
      exact this (waitsFor_iff.2 ⟨e, by simpa using he, hbd, hek⟩))
    (Region.noSelect_spec hns) hg hal hSal hSB (R := fun a => ∀ b w, B ≤ b → S w → w.heap[b]? = some obj → wpList P ops Q (ops.toList.drop (k + 1)) (a.put ok.dst (.pointer (some ⟨b, 0, none⟩))) w)
    (fun a ha b hb w hw hbo => wpAny_chain hch n (k + 1) _ w (by omega) (by omega) (ha b w hb hw hbo)) k (upto ops.size 0) a hleft (by
      intro j hj
      rcases Nat.lt_or_ge j ops.size with h' | h'
      · rw [upto_get false h']; simp
      · simp [upto, h']) (by simp [upto]) h1 w.drew hS
  rw [hn] at h2
  have h3 : upto ops.size 0 = Array.replicate ops.size false := by
    apply Array.ext
    · simp [upto]
    · intro j _ _; simp [upto]
  rw [h3] at h2
  exact h2

variable {K : Act → Prop} {T : World → Prop} {ds : List (Option Tmp)} {o : Oper} {rest : List Oper} {a : Act} {v : Value}
theorem SeqB.pure (hw : wantedD ds o a.tmps = true) (h : ∀ w, T w → (execOp a.eval o).run P w = .ok (.value v) w)
    (hr : SeqB P ds T K rest (a.put o.dst v)) : SeqB P ds T K (o :: rest) a :=
  ⟨v, .inl ⟨hw, fun w hS => by unfold Gives; rw [h w hS]; exact ⟨rfl, hS, Below.refl _ _⟩⟩, hr⟩
theorem SeqB.call {f : FuncId} {args : Array Value} {c : Call} (_hop : o.op = .call c) (hw : wantedD ds o a.tmps = true)
    (h : ∀ w, T w → (execOp a.eval o).run P w = .ok (.enter f args) w) (hc : ∀ w, T w → Calls P f args w fun e w' => e = .returned v ∧ T w' ∧ Below w.heap.size w w')
    (hr : SeqB P ds T K rest (a.put o.dst v)) : SeqB P ds T K (o :: rest) a :=
  ⟨v, .inl ⟨hw, fun w hS => by unfold Gives; rw [h w hS]; exact hc w hS⟩, hr⟩
theorem SeqB.skip (hw : wantedD ds o a.tmps = false) (hr : SeqB P ds T K rest (a.put o.dst undef)) : SeqB P ds T K (o :: rest) a :=
  ⟨undef, .inr ⟨hw, rfl⟩, hr⟩
theorem SeqB.split {p : Bool} {g : Nat} {want : Bool} (_hg : o.guard = some (g, want)) (_hy : (match (ds[g]?.join).bind (a.tmps[·]?) with | some (.bool b) => some b | _ => none) = some p)
    (h1 : p = true → SeqB P ds T K (o :: rest) a) (h2 : p = false → SeqB P ds T K (o :: rest) a) : SeqB P ds T K (o :: rest) a := by
  cases p
  · exact h2 rfl
  · exact h1 rfl
theorem SeqB.nil (h : K a) : SeqB P ds T K [] a := h
end


/-- What a new block of cells holds. -/
theorem cellsAre_block {w : World} {b : Nat} {cs : List Value} {T : TypeId} (h : w.heap[b]? = some (.cells cs.toArray T)) : cellsAre (cs.zipIdx.map fun x => (⟨b, x.2, none⟩, x.1)) w := by
  intro p hp
  obtain ⟨⟨v, i⟩, hm, rfl⟩ := List.mem_map.1 hp
  have hv : cs[i]? = some v := by simpa using List.mem_zipIdx_iff_getElem?.1 hm
  constructor
  · simp [World.cell?, h, hv]
  · simp [World.frozen?, h]
end Go.Sq
