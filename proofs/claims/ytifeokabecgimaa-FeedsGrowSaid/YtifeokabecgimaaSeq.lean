/-
  A region that draws its order, walked in the order of its text: a first part whose operations keep one condition on the world, then a chain.
-/
import Derived.WalkKit
import Derived.OrdersHeld
import Derived.Deep.RegionHeld3
set_option linter.unusedSimpArgs false
set_option linter.unusedVariables false
set_option maxRecDepth 100000
namespace Go.Sq
open Go Go.RowKit

section
variable {P : Program} {ops : Array Oper} {Q : Exit → Act → World → Prop} {md : Region.Mode} {S : World → Prop}

/-- At the operands 'ρ', in the world 'w', operation 'o' comes to 'v', and S holds behind it. -/
def Gives (P : Program) (S : World → Prop) (o : Oper) (v : Value) (ρ : Operand → Value) (w : World) : Prop :=
  match (execOp ρ o).run P w with
  | .ok (.value u) w' => u = v ∧ S w'
  | .ok (.enter f args) w' => Calls P f args w' fun e w'' => e = .returned v ∧ S w''
  | _ => False

theorem Gives.wp {o : Oper} {v : Value} {a : Act} {w : World} (h : Gives P S o v a.eval w) {K : Act → World → Prop}
    (hK : ∀ w', S w' → K (a.put o.dst v) w') : o.wp P a w K Q := by
  unfold Gives at h
  unfold Oper.wp
  generalize (execOp a.eval o).run P w = r at *
  cases r with
  | ok n w' =>
    cases n <;> simp only [Oper.upon] at h ⊢
    case value u => obtain ⟨rfl, hs⟩ := h; exact hK _ hs
    case enter f args =>
      refine Calls.mono h fun e w'' he => ?_
      obtain ⟨rfl, hs⟩ := he
      exact hK _ hs
  | halt x w' => exact h.elim

/-- One step: the operation is wanted and comes to v in every world that meets S, or it is not wanted. -/
def StepS (P : Program) (ops : Array Oper) (S : World → Prop) (o : Oper) (v : Value) (a : Act) : Prop :=
  (Region.wanted o (yielded ops a.tmps) = true ∧ ∀ w, S w → Gives P S o v a.eval w) ∨
  (Region.wanted o (yielded ops a.tmps) = false ∧ v = undef)

theorem StepS.of_same {o : Oper} {v : Value} {a a' : Act} (hy : StepS P ops S o v a) (he : execOp a'.eval o = execOp a.eval o)
    (hw : Region.wanted o (yielded ops a'.tmps) = Region.wanted o (yielded ops a.tmps)) : StepS P ops S o v a' := by
  unfold StepS Gives at *
  rw [he, hw]
  exact hy

theorem StepS.wpOp {i : Nat} {o : Oper} {v : Value} {a : Act} (hi : ops[i]? = some o) (hy : StepS P ops S o v a)
    {K : Act → World → Prop} {w : World} (hS : S w) (h : ∀ w', S w' → K (a.put o.dst v) w') : wpOp P ops Q i K a w := by
  unfold Go.wpOp
  simp only [hi]
  rcases hy with ⟨hw, hv⟩ | ⟨hw, rfl⟩
  · simp only [hw, if_true]; exact .inl ((hv w hS).wp h)
  · simp only [hw, Bool.false_eq_true, if_false]; exact h w hS

/-- Whatever order is picked: each step is fixed by the frame alone; behind so many steps 'R' holds. -/
def AnyU (P : Program) (md : Region.Mode) (ops : Array Oper) (S : World → Prop) (R : Array Bool → Act → Prop) : Nat → Array Bool → Act → Prop
  | 0, listed, a => R listed a
  | fuel + 1, listed, a => (Region.ready md ops listed ≠ []) ∧
    ∀ i ∈ Region.ready md ops listed, ∃ o v, ops[i]? = some o ∧ StepS P ops S o v a ∧ AnyU P md ops S R fuel (listed.setIfInBounds i true) (a.put o.dst v)

/-- How many of the first k have not come up. -/
def left (k : Nat) (listed : Array Bool) : Nat := (List.range k).countP fun i => !listed.getD i true

theorem countP_two {p : Nat → Bool} {i j : Nat} (hne : i ≠ j) (hi : p i = true) (hj : p j = true) :
    ∀ l : List Nat, i ∈ l → j ∈ l → 2 ≤ l.countP p
  | [], h, _ => by cases h
  | x :: l, h1, h2 => by
    by_cases hx : i = x
    · subst hx
      have h2' : j ∈ l := by rcases List.mem_cons.1 h2 with h | h; · exact absurd h.symm hne
                             · exact h
      have : 0 < l.countP p := List.countP_pos_iff.2 ⟨j, h2', hj⟩
      rw [List.countP_cons_of_pos hi]; omega
    · have h1' : i ∈ l := by rcases List.mem_cons.1 h1 with h | h; · exact absurd h hx
                             · exact h
      by_cases hy : j = x
      · subst hy
        have : 0 < l.countP p := List.countP_pos_iff.2 ⟨i, h1', hi⟩
        rw [List.countP_cons_of_pos hj]; omega
      · have h2' : j ∈ l := by rcases List.mem_cons.1 h2 with h | h; · exact absurd h hy
                               · exact h
        have := countP_two hne hi hj l h1' h2'
        rw [List.countP_cons]; omega

theorem left_set {k i : Nat} {listed : Array Bool} (hi : i < k) (hu : listed.getD i true = false) : left k listed = left k (listed.setIfInBounds i true) + 1 := by
  have hlt : i < listed.size := by
    rcases Nat.lt_or_ge i listed.size with h | h
    · exact h
    · simp [Array.getElem?_eq_none h] at hu
  unfold left
  have key : ∀ l : List Nat, l.Nodup → i ∈ l → l.countP (fun i => !listed.getD i true) = l.countP (fun j => !(listed.setIfInBounds i true).getD j true) + 1 := by
    intro l hn hm
    induction l with
    | nil => cases hm
    | cons x l ih =>
      rw [List.nodup_cons] at hn
      by_cases hx : i = x
      · subst hx
        have hsame : l.countP (fun i => !listed.getD i true) = l.countP (fun j => !(listed.setIfInBounds i true).getD j true) := by
          apply List.countP_congr
          intro y hy
          have hne : i ≠ y := fun e => hn.1 (e ▸ hy)
          rw [getD_set_ne true hne]
        rw [List.countP_cons_of_pos (by simp [hu]), List.countP_cons_of_neg (by simp [hlt]), hsame]
      · have hm' : i ∈ l := by rcases List.mem_cons.1 hm with h | h; · exact absurd h hx
                               · exact h
        have h1 := ih hn.2 hm'
        rw [List.countP_cons, List.countP_cons, h1, getD_set_ne true hx]
        omega
  exact key _ List.nodup_range (List.mem_range.2 hi)

/-- None of the operations from k on may come up before all ahead of k have. -/
def closed (md : Region.Mode) (ops : Array Oper) (k : Nat) : Bool :=
  (List.range ops.size).all fun j => decide (j < k) || match ops[j]? with
    | some oj => oj.after.any (fun e => Region.binds md e && decide (k ≤ e.on)) || (List.range k).all fun i => oj.after.any fun e => Region.binds md e && e.on == i
    | none => true

theorem ready_lt {k : Nat} {listed : Array Bool} (hc : closed md ops k = true) (hl : ∀ j, k ≤ j → listed.getD j false = false)
    {i : Nat} (hik : i < k) (hi : listed.getD i true = false) {j : Nat} (hj : j ∈ Region.ready md ops listed) : j < k := by
  obtain ⟨hjun, oj, hoj, hall⟩ := mem_ready.1 hj
  have hlt : j < ops.size := (Array.getElem?_eq_some_iff.1 hoj).1
  simp only [closed, List.all_eq_true, List.mem_range] at hc
  have h1 := hc j hlt
  simp only [hoj, Bool.or_eq_true, decide_eq_true_eq, List.all_eq_true, List.mem_range] at h1
  rcases h1 with h1 | h1 | h1
  · exact h1
  · obtain ⟨e, he, hb⟩ := Array.any_eq_true'.1 h1
    simp only [Bool.and_eq_true, decide_eq_true_eq] at hb
    have := hall e he hb.1
    rw [hl _ hb.2] at this
    cases this
  · obtain ⟨e, he, hb⟩ := Array.any_eq_true'.1 (h1 i hik)
    simp only [Bool.and_eq_true, beq_iff_eq] at hb
    have h2 := hall e he hb.1
    rw [hb.2] at h2
    have hlt : i < listed.size := by
      rcases Nat.lt_or_ge i listed.size with h | h
      · exact h
      · simp [Array.getElem?_eq_none h] at hi
    simp [hlt] at hi h2
    rw [hi] at h2; cases h2

theorem AnyU_first {R : Array Bool → Act → Prop} {k i : Nat} {oi : Oper} {v : Value} (hi : ops[i]? = some oi) (hik : i < k) (hc : closed md ops k = true)
    (hsel : ∀ (j : Nat) (o : Oper) cs b, ops[j]? = some o → o.op ≠ .select cs b) :
    ∀ (fuel : Nat) (listed : Array Bool) (a : Act), left k listed = fuel + 1 → (∀ j, k ≤ j → listed.getD j false = false) →
      (∀ j oj, ops[j]? = some oj → j ≠ i → listed.getD j true = false → (∀ e ∈ oj.after, Region.binds md e = true → e.on ≠ i) → oi.apart ops oj = true) →
      i ∈ Region.ready md ops listed → StepS P ops S oi v a →
      AnyU P md ops S R fuel (listed.setIfInBounds i true) (a.put oi.dst v) → AnyU P md ops S R (fuel + 1) listed a := by
  intro fuel
  induction fuel with
  | zero =>
    intro listed a hleft hl _ hr hy H
    refine ⟨fun h => (by rw [h] at hr; cases hr), fun j hj => ?_⟩
    have hiu := (mem_ready.1 hr).1
    have hju := (mem_ready.1 hj).1
    have hjk := ready_lt hc hl hik hiu hj
    have : j = i := by
      by_cases hne : i = j
      · exact hne.symm
      · have := countP_two (p := fun i => !listed.getD i true) hne (by simp only [hiu, Bool.not_false]) (by simp only [hju, Bool.not_false]) (List.range k) (List.mem_range.2 hik) (List.mem_range.2 hjk)
        unfold left at hleft; omega
    subst this
    exact ⟨oi, v, hi, hy, H⟩
  | succ fuel ih =>
    intro listed a hleft hl hfree hr hy H
    refine ⟨fun h => (by rw [h] at hr; cases hr), fun j hj => ?_⟩
    by_cases hji : j = i
    · subst hji; exact ⟨oi, v, hi, hy, H⟩
    · obtain ⟨oj, u, hoj', hyj, Hj⟩ := H.2 j (ready_mono hj hji)
      obtain ⟨hjun, oj', hoj, hall⟩ := mem_ready.1 hj
      obtain rfl : oj = oj' := by rw [hoj] at hoj'; cases hoj'; rfl
      have hjk := ready_lt hc hl hik (mem_ready.1 hr).1 hj
      have hnot : ∀ e ∈ oj.after, Region.binds md e = true → e.on ≠ i := fun e he hb heq => by
        have h1 := hall e he hb
        have h0 := (mem_ready.1 hr).1
        rw [heq] at h1
        rcases Nat.lt_or_ge i listed.size with h' | h'
        · simp [h'] at h0 h1; rw [h0] at h1; cases h1
        · simp [Array.getElem?_eq_none h'] at h1
      obtain ⟨h1, h2, h3⟩ := Oper.apart_spec (hfree j oj hoj hji hjun hnot)
      have hyj' : StepS P ops S oj u a := hyj.of_same (execOp_put oj (fun cs b => hsel j oj cs b hoj) a oi.dst v h1).symm (wanted_put oj a oi.dst v h1).symm
      have hyi' : StepS P ops S oi v (a.put oj.dst u) := hy.of_same (execOp_put oi (fun cs b => hsel i oi cs b hi) a oj.dst u h3) (wanted_put oi a oj.dst u h3)
      refine ⟨oj, u, hoj, hyj', ?_⟩
      have hfree' : ∀ k ok, ops[k]? = some ok → k ≠ i → (listed.setIfInBounds j true).getD k true = false →
          (∀ e ∈ ok.after, Region.binds md e = true → e.on ≠ i) → oi.apart ops ok = true := fun k ok hk hki hun hno => by
        refine hfree k ok hk hki ?_ hno
        by_cases hjk : j = k
        · subst hjk; exact hjun
        · rw [getD_set_ne true hjk] at hun; exact hun
      have hl' : ∀ m, k ≤ m → (listed.setIfInBounds j true).getD m false = false := fun m hm => by rw [getD_set_ne false (by omega)]; exact hl m hm
      have hleft' := left_set hjk hjun
      refine ih (listed.setIfInBounds j true) (a.put oj.dst u) (by omega) hl' hfree' (ready_mono hr (Ne.symm hji)) hyi' ?_
      rw [Array.setIfInBounds_comm _ _ hji, ← Act.put_comm a v u h2]
      exact Hj

/-- A walk over the first k operations, in the order of the text. -/
def SeqS (P : Program) (ops : Array Oper) (S : World → Prop) (R : Act → Prop) : List Oper → Act → Prop
  | [], a => R a
  | o :: rest, a => ∃ v, StepS P ops S o v a ∧ SeqS P ops S R rest (a.put o.dst v)

/-- Which have come up: the first i of n. -/
def upto (n i : Nat) : Array Bool := (List.range n).toArray.map fun j => decide (j < i)

/-- The order of the text is one that the edges allow, and at each place whoever could come ahead of it is apart from it. -/
def inOrder (md : Region.Mode) (ops : Array Oper) (k : Nat) : Bool :=
  Region.noSelect ops && closed md ops k && decide (k ≤ ops.size) && (List.range k).all fun i => (Region.ready md ops (upto ops.size i)).contains i && Region.free md ops (upto ops.size i) i

theorem upto_get {n i j : Nat} (d : Bool) (h : j < n) : (upto n i).getD j d = decide (j < i) := by
  simp [upto, h]

theorem upto_set {n i : Nat} (_h : i < n) : (upto n i).setIfInBounds i true = upto n (i + 1) := by
  apply Array.ext
  · simp [upto]
  · intro j h1 h2
    have hjn : j < n := by simpa [upto] using h2
    by_cases hij : i = j
    · subst hij; simp [upto]
    · rw [Array.getElem_setIfInBounds_ne (by simpa [upto] using hjn) hij]
      simp [upto]
      omega

theorem left_upto {n k : Nat} (hkn : k ≤ n) : ∀ i, i ≤ k → left k (upto n i) = k - i := by
  intro i
  induction i with
  | zero =>
    intro _
    unfold left
    have : (List.range k).countP (fun i => !(upto n 0).getD i true) = (List.range k).length := by
      rw [List.countP_eq_length]
      intro j hj
      have := List.mem_range.1 hj
      rw [upto_get true (by omega)]; simp
    rw [this]; simp
  | succ i ih =>
    intro hi
    have h1 := ih (by omega)
    have h2 := left_set (listed := upto n i) (show i < k from hi) (by rw [upto_get true (by omega)]; simp)
    rw [upto_set (by omega)] at h2
    omega

theorem anyU_of_seq {R : Act → Prop} {k : Nat} (hin : inOrder md ops k = true) : ∀ (m i : Nat) (a : Act), i + m = k →
    SeqS P ops S R ((ops.toList.drop i).take m) a → AnyU P md ops S (fun l a => l = upto ops.size k ∧ R a) m (upto ops.size i) a := by
  simp only [inOrder, Bool.and_eq_true, List.all_eq_true, List.mem_range, decide_eq_true_eq] at hin
  obtain ⟨⟨⟨hsel, hc⟩, hk⟩, hall⟩ := hin
  intro m
  induction m with
  | zero => intro i a hi h; simp at hi; subst hi; exact ⟨rfl, by simpa [SeqS] using h⟩
  | succ m ih =>
    intro i a hi h
    have hlt : i < ops.size := by omega
    have hd : ops.toList.drop i = ops[i] :: ops.toList.drop (i + 1) := by
      rw [List.drop_eq_getElem_cons (by simpa using hlt)]; simp
    rw [hd, List.take_succ_cons] at h
    obtain ⟨v, hs, hrest⟩ := h
    have hio : ops[i]? = some ops[i] := Array.getElem?_eq_getElem hlt
    have hri := hall i (by omega)
    refine AnyU_first hio (show i < k by omega) hc (Region.noSelect_spec hsel) m (upto ops.size i) a ?_ ?_ ?_ (by simpa using hri.1) hs ?_
    · rw [left_upto hk i (by omega)]; omega
    · intro j hj
      rcases Nat.lt_or_ge j ops.size with h' | h'
      · rw [upto_get false h']; simp; omega
      · simp [upto, h']
    · exact Region.free_spec hio hri.2
    · rw [upto_set hlt]
      exact ih (i + 1) _ (by omega) hrest

theorem wpAny_of_U {R : Array Bool → Act → Prop} {n : Nat} (hR : ∀ l a, R l a → ∀ w, S w → wpAny P md ops Q n l a w) :
    ∀ (m : Nat) (listed : Array Bool) (a : Act), AnyU P md ops S R m listed a → ∀ w, S w → wpAny P md ops Q (m + n) listed a w := by
  intro m
  induction m with
  | zero => intro listed a h w hw; rw [Nat.zero_add]; exact hR _ _ h w hw
  | succ m ih =>
    intro listed a h w hw
    rw [show m + 1 + n = (m + n) + 1 from by omega]
    refine ⟨fun h0 => absurd h0 h.1, fun i hi => ?_⟩
    obtain ⟨o, v, ho, hs, hr⟩ := h.2 i hi
    exact hs.wpOp ho hw fun w' hw' => ih _ _ hr w' hw'

/-- From operation k on each one waits for the one ahead of it (and may come up then). -/
def chain (md : Region.Mode) (ops : Array Oper) (k : Nat) : Bool :=
  (List.range ops.size).all fun j => decide (j < k) || (Region.ready md ops (upto ops.size j) == [j])

theorem ready_full : Region.ready md ops (upto ops.size ops.size) = [] := by
  rw [List.eq_nil_iff_forall_not_mem]
  intro j hj
  obtain ⟨hu, o, ho, _⟩ := mem_ready.1 hj
  have hlt : j < ops.size := (Array.getElem?_eq_some_iff.1 ho).1
  rw [upto_get true hlt] at hu
  simp at hu; omega

theorem wpAny_chain {k : Nat} (hch : chain md ops k = true) : ∀ (m i : Nat) (a : Act) (w : World), i + m = ops.size → k ≤ i →
    wpList P ops Q (ops.toList.drop i) a w → wpAny P md ops Q m (upto ops.size i) a w := by
  intro m
  induction m with
  | zero =>
    intro i a w hi _ h
    simp at hi; subst hi
    rw [List.drop_of_length_le (by simp)] at h
    exact ⟨ready_full, h⟩
  | succ m ih =>
    intro i a w hi hki h
    have hlt : i < ops.size := by omega
    have hd : ops.toList.drop i = ops[i] :: ops.toList.drop (i + 1) := by
      rw [List.drop_eq_getElem_cons (by simpa using hlt)]; simp
    rw [hd] at h
    have hrd : Region.ready md ops (upto ops.size i) = [i] := by
      simp only [chain, List.all_eq_true, List.mem_range] at hch
      have := hch i hlt
      simp only [Bool.or_eq_true, decide_eq_true_eq, beq_iff_eq] at this
      rcases this with h | h
      · omega
      · exact h
    have hmono : ∀ a w, wpList P ops Q (ops.toList.drop (i + 1)) a w → wpAny P md ops Q m ((upto ops.size i).setIfInBounds i true) a w := fun a w h => by
      rw [upto_set hlt]; exact ih (i + 1) a w (by omega) (by omega) h
    refine ⟨fun h0 => (by rw [hrd] at h0; cases h0), fun j hj => ?_⟩
    rw [hrd] at hj
    obtain rfl : j = i := by simpa using hj
    unfold wpOp
    simp only [Array.getElem?_eq_getElem hlt]
    unfold wpList at h
    split
    · rename_i hw; rw [if_pos hw] at h; exact h.imp (Oper.wp_mono hmono) id
    · rename_i hw; rw [if_neg hw] at h; exact hmono _ _ h

/-! ### The static check, said so that the kernel reckons it quickly -/
def binds' (e : Edge) : Bool := match e.ground with | .textOnly _ => false | .gcOnly _ => false | _ => true
theorem binds'_eq (e : Edge) : binds' e = Region.binds .any e := by
  unfold binds' Region.binds; cases e.ground <;> rfl
def waitsFor (i : Nat) : List Edge → Bool
  | [] => false
  | e :: l => (Nat.beq e.on i && binds' e) || waitsFor i l
def allBelow (i : Nat) : List Edge → Bool
  | [] => true
  | e :: l => (Nat.blt e.on i || !binds' e) && allBelow i l
def behindOk (ops : Array Oper) (o : Oper) (i : Nat) : List Oper → Bool
  | [] => true
  | oj :: l => (waitsFor i oj.after.toList || o.apart ops oj) && behindOk ops o i l
def seqOk (ops : Array Oper) : Nat → Nat → List Oper → Bool
  | 0, _, _ => true
  | k + 1, i, o :: l => allBelow i o.after.toList && behindOk ops o i l && seqOk ops k (i + 1) l
  | _ + 1, _, [] => false
/-- Each of these waits for all below k, or for one from k on. -/
def tailOk (k : Nat) : List Oper → Bool
  | [] => true
  | o :: l => (o.after.toList.any (fun e => binds' e && Nat.ble k e.on) || (List.range k).all fun i => waitsFor i o.after.toList) && tailOk k l
def noSel : List Oper → Bool
  | [] => true
  | o :: l => (match o.op with | .select .. => false | _ => true) && noSel l

theorem waitsFor_iff {i : Nat} : ∀ {l : List Edge}, waitsFor i l = true ↔ ∃ e ∈ l, Region.binds .any e = true ∧ e.on = i
  | [] => by simp [waitsFor]
  | e :: l => by
    simp only [waitsFor, Bool.or_eq_true, Bool.and_eq_true, waitsFor_iff (l := l), binds'_eq, List.mem_cons, Nat.beq_eq]
    constructor
    · rintro (⟨h1, h2⟩ | ⟨e', h1, h2⟩)
      · exact ⟨e, .inl rfl, h2, h1⟩
      · exact ⟨e', .inr h1, h2⟩
    · rintro ⟨e', rfl | h1, h2⟩
      · exact .inl ⟨h2.2, h2.1⟩
      · exact .inr ⟨e', h1, h2⟩

theorem allBelow_iff {i : Nat} : ∀ {l : List Edge}, allBelow i l = true ↔ ∀ e ∈ l, Region.binds .any e = true → e.on < i
  | [] => by simp [allBelow]
  | e :: l => by
    simp only [allBelow, Bool.and_eq_true, Bool.or_eq_true, allBelow_iff (l := l), List.forall_mem_cons, binds'_eq, Bool.not_eq_true']
    have hb : Nat.blt e.on i = true ↔ e.on < i := by simp [Nat.blt_eq]
    rw [hb]
    constructor
    · rintro ⟨h1, h2⟩
      refine ⟨fun hb => ?_, h2⟩
      rcases h1 with h1 | h1
      · exact h1
      · rw [hb] at h1; cases h1
    · rintro ⟨h1, h2⟩
      refine ⟨?_, h2⟩
      by_cases hb : Region.binds .any e = true
      · exact .inl (h1 hb)
      · exact .inr (by simpa using hb)

theorem behindOk_spec {o : Oper} {i : Nat} : ∀ {l : List Oper}, behindOk ops o i l = true → ∀ oj ∈ l, waitsFor i oj.after.toList = true ∨ o.apart ops oj = true
  | [], _ => by simp
  | x :: l, h => by
    simp only [behindOk, Bool.and_eq_true, Bool.or_eq_true] at h
    intro oj hj
    rcases List.mem_cons.1 hj with rfl | hj
    · exact h.1
    · exact behindOk_spec h.2 oj hj

theorem seqOk_spec : ∀ (k i : Nat) (l : List Oper), seqOk ops k i l = true → k ≤ l.length ∧ ∀ m, m < k → ∃ o, l[m]? = some o ∧ allBelow (i + m) o.after.toList = true ∧ ∀ (n : Nat) (oj : Oper), m < n → l[n]? = some oj → waitsFor (i + m) oj.after.toList = true ∨ o.apart ops oj = true
  | 0, i, l, _ => ⟨Nat.zero_le _, fun m h => by omega⟩
  | k + 1, i, [], h => by simp [seqOk] at h
  | k + 1, i, o :: l, h => by
    simp only [seqOk, Bool.and_eq_true] at h
    obtain ⟨⟨h1, h2⟩, h3⟩ := h
    obtain ⟨h4, h5⟩ := seqOk_spec k (i + 1) l h3
    refine ⟨by simp; omega, fun m hm => ?_⟩
    cases m with
    | zero =>
      refine ⟨o, rfl, h1, fun n oj hn hj => ?_⟩
      obtain ⟨n, rfl⟩ : ∃ n', n = n' + 1 := ⟨n - 1, by omega⟩
      exact behindOk_spec h2 oj (List.mem_of_getElem? (by simpa using hj))
    | succ m =>
      obtain ⟨o', ho', hb, hr⟩ := h5 m (by omega)
      refine ⟨o', by simpa using ho', by rw [show i + (m + 1) = i + 1 + m from by omega]; exact hb, fun n oj hn hj => ?_⟩
      obtain ⟨n, rfl⟩ : ∃ n', n = n' + 1 := ⟨n - 1, by omega⟩
      rw [show i + (m + 1) = i + 1 + m from by omega]
      exact hr n oj (by omega) (by simpa using hj)

theorem tailOk_spec {k : Nat} : ∀ {l : List Oper}, tailOk k l = true → ∀ o ∈ l, (o.after.toList.any (fun e => binds' e && Nat.ble k e.on) = true) ∨ ∀ i, i < k → waitsFor i o.after.toList = true
  | [], _ => by simp
  | x :: l, h => by
    simp only [tailOk, Bool.and_eq_true, Bool.or_eq_true, List.all_eq_true, List.mem_range] at h
    intro o ho
    rcases List.mem_cons.1 ho with rfl | ho
    · exact h.1
    · exact tailOk_spec h.2 o ho

theorem noSel_spec : ∀ {l : List Oper}, noSel l = true → ∀ o ∈ l, (match o.op with | .select .. => false | _ => true) = true
  | [], _ => by simp
  | x :: l, h => by
    simp only [noSel, Bool.and_eq_true] at h
    intro o ho
    rcases List.mem_cons.1 ho with rfl | ho
    · exact h.1
    · exact noSel_spec h.2 o ho

def quick (ops : Array Oper) (k : Nat) : Bool := noSel ops.toList && seqOk ops k 0 ops.toList && tailOk k (ops.toList.drop k)

theorem inOrder_of_quick {k : Nat} (h : quick ops k = true) : inOrder .any ops k = true := by
  simp only [quick, Bool.and_eq_true] at h
  obtain ⟨⟨h1, h2⟩, h3⟩ := h
  obtain ⟨hk, hall⟩ := seqOk_spec k 0 _ h2
  simp only [Array.length_toList] at hk
  have hsel : Region.noSelect ops = true := by
    unfold Region.noSelect
    rw [← Array.all_toList, List.all_eq_true]
    exact noSel_spec h1
  have hcl : closed .any ops k = true := by
    simp only [closed, List.all_eq_true, List.mem_range]
    intro j hj
    by_cases hjk : j < k
    · simp [hjk]
    · have ho : ops[j]? = some ops[j] := Array.getElem?_eq_getElem hj
      simp only [ho, Bool.or_eq_true]
      refine .inr ?_
      have hm : ops[j] ∈ ops.toList.drop k := by
        rw [List.mem_iff_getElem?]
        refine ⟨j - k, ?_⟩
        rw [List.getElem?_drop, show k + (j - k) = j from by omega]
        simp [hj]
      rcases tailOk_spec h3 _ hm with h | h
      · refine .inl ?_
        obtain ⟨e, he, hb⟩ := List.any_eq_true.1 h
        simp only [Bool.and_eq_true, binds'_eq, Nat.ble_eq] at hb
        exact Array.any_eq_true'.2 ⟨e, by simpa using he, by simp [hb.1, hb.2]⟩
      · refine .inr ?_
        rw [List.all_eq_true]
        intro i hi
        obtain ⟨e, he, hb⟩ := waitsFor_iff.1 (h i (List.mem_range.1 hi))
        exact Array.any_eq_true'.2 ⟨e, by simpa using he, by simp [hb.1, hb.2]⟩
  simp only [inOrder, hsel, hcl, Bool.true_and, Bool.and_eq_true, decide_eq_true_eq, List.all_eq_true, List.mem_range]
  refine ⟨hk, fun i hi => ?_⟩
  obtain ⟨o, ho, hb, hr⟩ := hall i hi
  have ho' : ops[i]? = some o := by simpa using ho
  have hlt : i < ops.size := by omega
  simp only [Nat.zero_add] at hb hr
  constructor
  · have : i ∈ Region.ready .any ops (upto ops.size i) := by
      rw [mem_ready]
      refine ⟨by rw [upto_get true hlt]; simp, o, ho', fun e he hbd => ?_⟩
      have := allBelow_iff.1 hb e (by simpa using he) hbd
      rw [upto_get false (by omega)]
      simp [this]
    simpa using this
  · simp only [Region.free, ho', List.all_eq_true, List.mem_range]
    intro j hj
    by_cases hji : j = i
    · simp [hji]
    · by_cases hlo : j < i
      · rw [upto_get true hj]; simp [hlo]
      · have hoj : ops[j]? = some ops[j] := Array.getElem?_eq_getElem hj
        rcases hr j ops[j] (by omega) (by simp [hj]) with h | h
        · obtain ⟨e, he, hb⟩ := waitsFor_iff.1 h
          have : (ops[j].after.any fun e => Region.binds .any e && e.on == i) = true := Array.any_eq_true'.2 ⟨e, by simpa using he, by simp [hb.1, hb.2]⟩
          simp [hoj, this]
        · simp [hoj, h]

/-- THE RULE. A region that draws its order: its first k operations in the order of the text, each coming to one value in every world that meets S and keeping S; the others wait, one for the other. -/
theorem wp_region_seq {id : Nat} {a : Act} {w : World} (k : Nat) (S : World → Prop) (hm : P.follows .mixedOrders = true)
    (hin : inOrder .any ops k = true) (hch : chain .any ops k = true) (hS : S w.drew)
    (h : SeqS P ops S (fun a => ∀ w, S w → wpList P ops Q (ops.toList.drop k) a w) (ops.toList.take k) a) : (Code.region id ops true).wp P Q a w := by
  refine wp_region_any hm ?_
  have hk : k ≤ ops.size := by
    simp only [inOrder, Bool.and_eq_true, decide_eq_true_eq] at hin
    exact hin.1.2
  have h1 := anyU_of_seq (md := .any) (ops := ops) hin k 0 a (by omega) (by simpa using h)
  have h2 := wpAny_of_U (P := P) (md := .any) (ops := ops) (Q := Q) (S := S) (n := ops.size - k) (fun l a hl w hw => by
    obtain ⟨rfl, hR⟩ := hl
    exact wpAny_chain hch (ops.size - k) k a w (by omega) (Nat.le_refl _) (hR w hw)) k _ a h1 w.drew hS
  rw [show k + (ops.size - k) = ops.size from by omega] at h2
  have h3 : upto ops.size 0 = Array.replicate ops.size false := by
    apply Array.ext
    · simp [upto]
    · intro j _ _; simp [upto]
  rw [h3] at h2
  exact h2

/-! ### The walk with small goals: of the region only the list of what each operation writes is kept in sight -/
/-- Is the operation wanted, by what the guard's temporary holds? -/
def wantedD (ds : List (Option Tmp)) (o : Oper) (tmps : Array Value) : Bool :=
  match o.guard with
  | none => true
  | some (g, want) => (match (ds[g]?.join).bind (tmps[·]?) with | some (.bool b) => some b | _ => none) == some want

theorem wantedD_eq {ds : List (Option Tmp)} (hds : ops.toList.map (·.dst) = ds) (o : Oper) (tmps : Array Value) : Region.wanted o (yielded ops tmps) = wantedD ds o tmps := by
  subst hds
  unfold Region.wanted wantedD
  cases hg : o.guard with
  | none => rfl
  | some gw =>
    obtain ⟨g, want⟩ := gw
    simp only [yielded, List.getElem?_map, Array.getElem?_toList]
    cases ho : ops[g]? with
    | none => simp
    | some og =>
      cases hd : og.dst with
      | none => simp [hd]
      | some d => simp only [Option.bind_some, Option.map_some, Option.join_some, hd]; rfl

/-- The walk. -/
def SeqD (P : Program) (ds : List (Option Tmp)) (S : World → Prop) (K : Act → Prop) : List Oper → Act → Prop
  | [], a => K a
  | o :: rest, a => ∃ v, ((wantedD ds o a.tmps = true ∧ ∀ w, S w → Gives P S o v a.eval w) ∨ (wantedD ds o a.tmps = false ∧ v = undef)) ∧ SeqD P ds S K rest (a.put o.dst v)

theorem seqS_of_D {ds : List (Option Tmp)} (hds : ops.toList.map (·.dst) = ds) {K : Act → Prop} : ∀ (l : List Oper) (a : Act), SeqD P ds S K l a → SeqS P ops S K l a
  | [], _, h => h
  | o :: l, a, ⟨v, h, hr⟩ => ⟨v, by unfold StepS; rw [wantedD_eq hds]; exact h, seqS_of_D hds l _ hr⟩

/-- THE RULE, AS IT IS USED: the condition and what follows behind letters, so that the steps' goals stay small. -/
theorem wp_region_sq {id : Nat} {a : Act} {w : World} (k : Nat) (S : World → Prop) (hm : P.follows .mixedOrders = true)
    (hin : quick ops k = true) (hch : chain .any ops k = true) (hS : S w.drew) {ds : List (Option Tmp)} (hds : ops.toList.map (·.dst) = ds)
    (h : ∀ (K : Act → Prop) (T : World → Prop), (∀ a, (∀ w, S w → wpList P ops Q (ops.toList.drop k) a w) → K a) → (∀ w, T w → S w) → (∀ w, S w → T w) → SeqD P ds T K (ops.toList.take k) a) :
    (Code.region id ops true).wp P Q a w :=
  wp_region_seq k S hm (inOrder_of_quick hin) hch hS (seqS_of_D hds _ _ (h _ S (fun _ h => h) (fun _ h => h) fun _ h => h))

/-- The same, where every operation of the region keeps the condition. -/
theorem wp_region_all {id : Nat} {a : Act} {w : World} (S : World → Prop) (hm : P.follows .mixedOrders = true)
    (hin : quick ops ops.size = true) (hS : S w.drew) {ds : List (Option Tmp)} (hds : ops.toList.map (·.dst) = ds)
    (h : ∀ (K : Act → Prop) (T : World → Prop), (∀ a, (∀ w, S w → Q .normal a w) → K a) → (∀ w, T w → S w) → (∀ w, S w → T w) → SeqD P ds T K ops.toList a) :
    (Code.region id ops true).wp P Q a w := by
  refine wp_region_seq ops.size S hm (inOrder_of_quick hin) ?_ hS (seqS_of_D hds _ _ ?_)
  · simp only [chain, List.all_eq_true, List.mem_range, Bool.or_eq_true, decide_eq_true_eq]
    intro j hj; exact .inl hj
  · rw [← Array.length_toList, List.take_length]
    refine h _ S (fun a ha w hw => ?_) (fun _ h => h) (fun _ h => h)
    rw [List.drop_length]
    exact ha w hw

variable {K : Act → Prop} {T : World → Prop} {ds : List (Option Tmp)} {o : Oper} {rest : List Oper} {a : Act} {v : Value}
theorem SeqD.pure (hw : wantedD ds o a.tmps = true) (h : ∀ w, T w → (execOp a.eval o).run P w = .ok (.value v) w)
    (hr : SeqD P ds T K rest (a.put o.dst v)) : SeqD P ds T K (o :: rest) a :=
  ⟨v, .inl ⟨hw, fun w hS => by unfold Gives; rw [h w hS]; exact ⟨rfl, hS⟩⟩, hr⟩
theorem SeqD.step (hw : wantedD ds o a.tmps = true) (h : ∀ w, T w → ∃ w', (execOp a.eval o).run P w = .ok (.value v) w' ∧ T w')
    (hr : SeqD P ds T K rest (a.put o.dst v)) : SeqD P ds T K (o :: rest) a :=
  ⟨v, .inl ⟨hw, fun w hS => by obtain ⟨w', h1, h2⟩ := h w hS; unfold Gives; rw [h1]; exact ⟨rfl, h2⟩⟩, hr⟩
theorem SeqD.call {f : FuncId} {args : Array Value} {c : Call} (_hop : o.op = .call c) (hw : wantedD ds o a.tmps = true)
    (h : ∀ w, T w → (execOp a.eval o).run P w = .ok (.enter f args) w) (hc : ∀ w, T w → Calls P f args w fun e w' => e = .returned v ∧ T w')
    (hr : SeqD P ds T K rest (a.put o.dst v)) : SeqD P ds T K (o :: rest) a :=
  ⟨v, .inl ⟨hw, fun w hS => by unfold Gives; rw [h w hS]; exact hc w hS⟩, hr⟩
theorem SeqD.skip (hw : wantedD ds o a.tmps = false) (hr : SeqD P ds T K rest (a.put o.dst undef)) : SeqD P ds T K (o :: rest) a :=
  ⟨undef, .inr ⟨hw, rfl⟩, hr⟩
theorem SeqD.split {p : Bool} {g : Nat} {want : Bool} (_hg : o.guard = some (g, want)) (_hy : (match (ds[g]?.join).bind (a.tmps[·]?) with | some (.bool b) => some b | _ => none) = some p)
    (h1 : p = true → SeqD P ds T K (o :: rest) a) (h2 : p = false → SeqD P ds T K (o :: rest) a) : SeqD P ds T K (o :: rest) a := by
  cases p
  · exact h2 rfl
  · exact h1 rfl
theorem SeqD.nil (h : K a) : SeqD P ds T K [] a := h
end

/-! ### Quiet steps (the world stays just as it is) ahead of a chain of operations that may come up among them -/
section
variable {P : Program} {ops : Array Oper} {Q : Exit → Act → World → Prop} {md : Region.Mode} {S : World → Prop}

/-- In every world that meets S the operation comes to v and leaves the world as it is: by itself, or by a call. -/
def YieldsQ (P : Program) (ops : Array Oper) (S : World → Prop) (o : Oper) (v : Value) (a : Act) : Prop :=
  (Region.wanted o (yielded ops a.tmps) = true ∧ ∀ w, S w → Gives P (fun w' => w' = w) o v a.eval w) ∨
  (Region.wanted o (yielded ops a.tmps) = false ∧ v = undef)

theorem YieldsQ.of_same {o : Oper} {v : Value} {a a' : Act} (hy : YieldsQ P ops S o v a) (he : execOp a'.eval o = execOp a.eval o)
    (hw : Region.wanted o (yielded ops a'.tmps) = Region.wanted o (yielded ops a.tmps)) : YieldsQ P ops S o v a' := by
  unfold YieldsQ Gives at *
  rw [he, hw]
  exact hy

theorem YieldsQ.wpOp {i : Nat} {o : Oper} {v : Value} {a : Act} (hi : ops[i]? = some o) (hy : YieldsQ P ops S o v a)
    {K : Act → World → Prop} {w : World} (hS : S w) (h : K (a.put o.dst v) w) : wpOp P ops Q i K a w := by
  unfold Go.wpOp
  simp only [hi]
  rcases hy with ⟨hw, hv⟩ | ⟨hw, rfl⟩
  · simp only [hw, if_true]; exact .inl ((hv w hS).wp fun w' hw' => by subst hw'; exact h)
  · simp only [hw, Bool.false_eq_true, if_false]; exact h

theorem wpOp_putQ {j : Nat} {oi oj : Oper} {v : Value} (hj : ops[j]? = some oj) (hap : oi.apart ops oj = true)
    (hsi : ∀ cs b, oi.op ≠ .select cs b) (hsj : ∀ cs b, oj.op ≠ .select cs b)
    (hQ : ∀ c a w, Q (.panic c) (a.put oi.dst v) w → Q (.panic c) a w) {K : Act → World → Prop} {a : Act} {w : World}
    (hy : YieldsQ P ops S oi v a) (h : wpOp P ops Q j K (a.put oi.dst v) w) :
    wpOp P ops Q j (fun a' w' => YieldsQ P ops S oi v a' ∧ K (a'.put oi.dst v) w') a w := by
  obtain ⟨h1, h2, h3⟩ := Oper.apart_spec hap
  have keep : ∀ (a : Act), YieldsQ P ops S oi v a → ∀ u, YieldsQ P ops S oi v (a.put oj.dst u) := fun a hy u =>
    hy.of_same (execOp_put oi hsi a oj.dst u h3) (wanted_put oi a oj.dst u h3)
  have keepD : ∀ d, YieldsQ P ops S oi v { a with defers := d :: a.defers } := fun d => hy.of_same rfl rfl
  unfold wpOp at *
  simp only [hj] at *
  rw [wanted_put oj a oi.dst v h1] at h
  split
  · rename_i hw
    simp only [hw, if_true] at h
    rcases h with h | ⟨hasks, hlets⟩
    case inr => exact .inr ⟨by unfold Oper.asks at *; rw [execOp_put oj hsj a oi.dst v h1] at hasks; exact hasks, hlets⟩
    refine .inl ?_
    unfold Oper.wp at *
    rw [execOp_put oj hsj a oi.dst v h1] at h
    generalize (execOp a.eval oj).run P w = r at *
    cases r with
    | ok n w' =>
      cases n <;> simp only [Oper.upon] at h ⊢
      case value u => exact ⟨keep a hy u, by rw [← Act.put_comm a v u h2]; exact h⟩
      case skip => exact ⟨keep a hy _, by rw [← Act.put_comm a v undef h2]; exact h⟩
      case defer d =>
        refine ⟨keep _ (keepD d) _, ?_⟩
        rw [← Act.put_comm _ v undef h2, ← Act.put_defers]
        exact h
      case enter f args =>
        refine Calls.mono h fun e w'' he => ?_
        cases e with
        | returned u => exact ⟨keep a hy u, by rw [← Act.put_comm a v u h2]; exact he⟩
        | panicked c => exact hQ _ _ _ he
        | outgrown => exact he
      case row row args => exact Rows.mono h fun u w'' he => ⟨keep a hy u, by rw [← Act.put_comm a v u h2]; exact he⟩
    | halt x w' =>
      cases x <;> simp only [Oper.upon] at h ⊢
      case panic u => exact hQ _ _ _ h
  · rename_i hw
    simp only [hw] at h
    exact ⟨keep a hy _, by rw [← Act.put_comm a v undef h2]; exact h⟩

theorem wpAnyH_firstQ {i : Nat} {oi : Oper} {v : Value} (hi : ops[i]? = some oi) (hsel : ∀ (j : Nat) (o : Oper) cs b, ops[j]? = some o → o.op ≠ .select cs b)
    (hQ : ∀ c a w, Q (.panic c) (a.put oi.dst v) w → Q (.panic c) a w) :
    ∀ (fuel : Nat) (listed : Array Bool) (a : Act) (w : World),
      (∀ j oj, ops[j]? = some oj → j ≠ i → listed.getD j true = false → (∀ e ∈ oj.after, Region.binds md e = true → e.on ≠ i) → oi.apart ops oj = true) →
      i ∈ Region.ready md ops listed → YieldsQ P ops S oi v a → S w →
      wpAnyH P md ops Q S fuel (listed.setIfInBounds i true) (a.put oi.dst v) w → wpAnyH P md ops Q S (fuel + 1) listed a w := by
  intro fuel
  induction fuel with
  | zero =>
    intro listed a w _ hr hy hS H
    refine ⟨fun h => (by rw [h] at hr; cases hr), fun j hj => ?_⟩
    by_cases hji : j = i
    · subst hji; exact hy.wpOp hi hS ⟨hS, H⟩
    · have := ready_mono hj hji
      rw [H.1] at this
      cases this
  | succ fuel ih =>
    intro listed a w hfree hr hy hS H
    refine ⟨fun h => (by rw [h] at hr; cases hr), fun j hj => ?_⟩
    by_cases hji : j = i
    · subst hji; exact hy.wpOp hi hS ⟨hS, H⟩
    · have h1 := H.2 j (ready_mono hj hji)
      obtain ⟨hjun, oj, hoj, hall⟩ := mem_ready.1 hj
      have hnot : ∀ e ∈ oj.after, Region.binds md e = true → e.on ≠ i := fun e he hb heq => by
        have h1 := hall e he hb
        have h0 := (mem_ready.1 hr).1
        rw [heq] at h1
        rcases Nat.lt_or_ge i listed.size with h' | h'
        · simp [h'] at h0 h1; rw [h0] at h1; cases h1
        · simp [Array.getElem?_eq_none h'] at h1
      have h2 := wpOp_putQ hoj (hfree j oj hoj hji hjun hnot) (fun cs b => hsel i oi cs b hi) (fun cs b => hsel j oj cs b hoj) hQ hy h1
      have hfree' : ∀ k ok, ops[k]? = some ok → k ≠ i → (listed.setIfInBounds j true).getD k true = false →
          (∀ e ∈ ok.after, Region.binds md e = true → e.on ≠ i) → oi.apart ops ok = true := fun k ok hk hki hun hno => by
        refine hfree k ok hk hki ?_ hno
        by_cases hjk : j = k
        · subst hjk; exact hjun
        · rw [getD_set_ne true hjk] at hun; exact hun
      refine wpOp_mono (fun a' w' h3 => ⟨h3.2.1, ih (listed.setIfInBounds j true) a' w' hfree' (ready_mono hr (Ne.symm hji)) h3.1 h3.2.1 ?_⟩) h2
      rw [Array.setIfInBounds_comm _ _ hji]
      exact h3.2.2

/-- The walk over quiet steps. -/
def SeqQ (P : Program) (ds : List (Option Tmp)) (S : World → Prop) (K : Act → Prop) : List Oper → Act → Prop
  | [], a => K a
  | o :: rest, a => ∃ v, ((wantedD ds o a.tmps = true ∧ ∀ w, S w → Gives P (fun w' => w' = w) o v a.eval w) ∨ (wantedD ds o a.tmps = false ∧ v = undef)) ∧ SeqQ P ds S K rest (a.put o.dst v)

/-- A list of operations, and S shown anew behind each. -/
def wpListH (P : Program) (ops : Array Oper) (Q : Exit → Act → World → Prop) (S : World → Prop) : List Oper → Act → World → Prop
  | [], a, w => Q .normal a w
  | o :: rest, a, w => if Region.wanted o (yielded ops a.tmps) then o.wp P a w (fun a' w' => S w' ∧ wpListH P ops Q S rest a' w') Q else S w ∧ wpListH P ops Q S rest (a.put o.dst undef) w

theorem wpAnyH_chain {k : Nat} (hch : chain md ops k = true) : ∀ (m i : Nat) (a : Act) (w : World), i + m = ops.size → k ≤ i →
    wpListH P ops Q S (ops.toList.drop i) a w → wpAnyH P md ops Q S m (upto ops.size i) a w := by
  intro m
  induction m with
  | zero =>
    intro i a w hi _ h
    simp at hi; subst hi
    rw [List.drop_of_length_le (by simp)] at h
    exact ⟨ready_full, h⟩
  | succ m ih =>
    intro i a w hi hki h
    have hlt : i < ops.size := by omega
    have hd : ops.toList.drop i = ops[i] :: ops.toList.drop (i + 1) := by
      rw [List.drop_eq_getElem_cons (by simpa using hlt)]; simp
    rw [hd] at h
    have hrd : Region.ready md ops (upto ops.size i) = [i] := by
      simp only [chain, List.all_eq_true, List.mem_range] at hch
      have := hch i hlt
      simp only [Bool.or_eq_true, decide_eq_true_eq, beq_iff_eq] at this
      rcases this with h | h
      · omega
      · exact h
    have hmono : ∀ a w, (S w ∧ wpListH P ops Q S (ops.toList.drop (i + 1)) a w) → (S w ∧ wpAnyH P md ops Q S m ((upto ops.size i).setIfInBounds i true) a w) := fun a w h => by
      rw [upto_set hlt]; exact ⟨h.1, ih (i + 1) a w (by omega) (by omega) h.2⟩
    refine ⟨fun h0 => (by rw [hrd] at h0; cases h0), fun j hj => ?_⟩
    rw [hrd] at hj
    obtain rfl : j = i := by simpa using hj
    unfold wpOp
    simp only [Array.getElem?_eq_getElem hlt]
    unfold wpListH at h
    split
    · rename_i hw; rw [if_pos hw] at h; exact .inl (Oper.wp_mono hmono h)
    · rename_i hw; rw [if_neg hw] at h; exact hmono _ _ h

theorem wpAnyH_seqQ {ds : List (Option Tmp)} (hds : ops.toList.map (·.dst) = ds) {k : Nat} (hsel : noSel ops.toList = true) (hsq : seqOk ops k 0 ops.toList = true)
    (hQ : ∀ c a d v w, Q (.panic c) (a.put d v) w → Q (.panic c) a w) {n : Nat} (hn : k + n = ops.size) {w : World} (hS : S w) : ∀ (m i : Nat) (a : Act), i + m = k →
    SeqQ P ds S (fun a => wpAnyH P .any ops Q S n (upto ops.size k) a w) ((ops.toList.drop i).take m) a → wpAnyH P .any ops Q S (m + n) (upto ops.size i) a w := by
  have hns : Region.noSelect ops = true := by
    unfold Region.noSelect
    rw [← Array.all_toList, List.all_eq_true]
    exact noSel_spec hsel
  obtain ⟨_, hall⟩ := seqOk_spec k 0 _ hsq
  intro m
  induction m with
  | zero => intro i a hi h; simp at hi; subst hi; rw [Nat.zero_add]; simpa [SeqQ] using h
  | succ m ih =>
    intro i a hi h
    have hlt : i < ops.size := by omega
    have hd : ops.toList.drop i = ops[i] :: ops.toList.drop (i + 1) := by
      rw [List.drop_eq_getElem_cons (by simpa using hlt)]; simp
    rw [hd, List.take_succ_cons] at h
    obtain ⟨v, hs, hrest⟩ := h
    have hio : ops[i]? = some ops[i] := Array.getElem?_eq_getElem hlt
    obtain ⟨o, ho, hb, hr⟩ := hall i (by omega)
    obtain rfl : o = ops[i] := by
      have : ops.toList[i]? = some ops[i] := by simp [hlt]
      rw [this] at ho; cases ho; rfl
    simp only [Nat.zero_add] at hb hr
    rw [show m + 1 + n = (m + n) + 1 from by omega]
    refine wpAnyH_firstQ hio (Region.noSelect_spec hns) (fun c a w => hQ c a _ v w) (m + n) (upto ops.size i) a w ?_ ?_ (by unfold YieldsQ; rw [wantedD_eq hds]; exact hs) hS ?_
    · intro j oj hoj hji hun hno
      have hjlt : j < ops.size := (Array.getElem?_eq_some_iff.1 hoj).1
      have hij : i < j := by
        rw [upto_get true hjlt] at hun
        simp at hun; omega
      rcases hr j oj hij (by simpa using hoj) with h | h
      · obtain ⟨e, he, hb⟩ := waitsFor_iff.1 h
        exact absurd hb.2 (hno e (by simpa using he) hb.1)
      · exact h
    · rw [mem_ready]
      refine ⟨by rw [upto_get true hlt]; simp, ops[i], hio, fun e he hbd => ?_⟩
      have := allBelow_iff.1 hb e (by simpa using he) hbd
      rw [upto_get false (by omega)]
      simp [this]
    · rw [upto_set hlt]
      exact ih (i + 1) _ (by omega) hrest

/-- THE RULE: the first k operations leave the world as it is (in every world that meets S); the others wait one for the other, and S holds behind each. -/
theorem wp_region_q {id : Nat} {a : Act} {w : World} (k n : Nat) (S : World → Prop) (hm : P.follows .mixedOrders = true) (hn : k + n = ops.size)
    (hsel : noSel ops.toList = true) (hsq : seqOk ops k 0 ops.toList = true) (hch : chain .any ops k = true)
    (hS : S w.drew) {ds : List (Option Tmp)} (hds : ops.toList.map (·.dst) = ds)
    (h : ∀ (K : Act → Prop) (T : World → Prop), (∀ a, wpListH P ops (NoPanic Q) S (ops.toList.drop k) a w.drew → K a) → (∀ w, T w → S w) → SeqQ P ds T K (ops.toList.take k) a) :
    (Code.region id ops true).wp P Q a w := by
  refine wp_region_noPanic (wp_region_held (S := S) hm ?_)
  have h1 := wpAnyH_seqQ (P := P) (S := S) (Q := NoPanic Q) hds hsel hsq (fun _ _ _ _ _ h => h) hn hS k 0 a (by omega) (by
    rw [List.drop_zero]
    exact h _ S (fun a ha => wpAnyH_chain hch n k a w.drew hn (Nat.le_refl _) ha) fun _ h => h)
  rw [hn] at h1
  have h3 : upto ops.size 0 = Array.replicate ops.size false := by
    apply Array.ext
    · simp [upto]
    · intro j _ _; simp [upto]
  rw [h3] at h1
  exact h1

variable {K : Act → Prop} {T : World → Prop} {ds : List (Option Tmp)} {o : Oper} {rest : List Oper} {a : Act} {v : Value}
theorem SeqQ.pure (hw : wantedD ds o a.tmps = true) (h : ∀ w, T w → (execOp a.eval o).run P w = .ok (.value v) w)
    (hr : SeqQ P ds T K rest (a.put o.dst v)) : SeqQ P ds T K (o :: rest) a :=
  ⟨v, .inl ⟨hw, fun w hS => by unfold Gives; rw [h w hS]; exact ⟨rfl, rfl⟩⟩, hr⟩
theorem SeqQ.call {f : FuncId} {args : Array Value} {c : Call} (_hop : o.op = .call c) (hw : wantedD ds o a.tmps = true)
    (h : ∀ w, T w → (execOp a.eval o).run P w = .ok (.enter f args) w) (hc : ∀ w, T w → Calls P f args w fun e w' => e = .returned v ∧ w' = w)
    (hr : SeqQ P ds T K rest (a.put o.dst v)) : SeqQ P ds T K (o :: rest) a :=
  ⟨v, .inl ⟨hw, fun w hS => by unfold Gives; rw [h w hS]; exact hc w hS⟩, hr⟩
theorem SeqQ.skip (hw : wantedD ds o a.tmps = false) (hr : SeqQ P ds T K rest (a.put o.dst undef)) : SeqQ P ds T K (o :: rest) a :=
  ⟨undef, .inr ⟨hw, rfl⟩, hr⟩
theorem SeqQ.split {p : Bool} {g : Nat} {want : Bool} (_hg : o.guard = some (g, want)) (_hy : (match (ds[g]?.join).bind (a.tmps[·]?) with | some (.bool b) => some b | _ => none) = some p)
    (h1 : p = true → SeqQ P ds T K (o :: rest) a) (h2 : p = false → SeqQ P ds T K (o :: rest) a) : SeqQ P ds T K (o :: rest) a := by
  cases p
  · exact h2 rfl
  · exact h1 rfl
theorem SeqQ.nil (h : K a) : SeqQ P ds T K [] a := h
theorem wpListH.nil {w : World} (h : Q .normal a w) : wpListH P ops (NoPanic Q) S [] a w := h
theorem wpListH.cons {w : World} (hg : o.guard = none) (h : ∀ K : Act → World → Prop, (∀ a w, S w → (S w → wpListH P ops Q S rest a w) → K a w) → o.wp P a w K Q) : wpListH P ops Q S (o :: rest) a w := by
  unfold wpListH
  rw [if_pos (by simp [Region.wanted, hg])]
  exact h _ fun a w h1 h2 => ⟨h1, h2 h1⟩
end

theorem ret_of {P : Program} {fn : Func} {R : Ending → World → Prop} {a : Act} {w : World} {v : Value} (hr : (results fn a.tmps).run P w = .ok v w)
    (hR : a.defers = [] ∧ R (.returned v) w) : bodyPost P fn R .ret a w := bodyPost_ret hr hR.1 hR.2
theorem ret_bool {a b : Bool} (h : a = b) : Ending.returned (.bool a) = .returned (.bool b) := by rw [h]
theorem ret_int {k : IntKind} {a b : Int} (h : a = b) : Ending.returned (.int k a) = .returned (.int k b) := by rw [h]

/-! ### The usual condition: memory that was there is as it was, and these cells of the call's own hold these values -/
def cellsAre (L : List (Addr × Value)) (w : World) : Prop := ∀ p ∈ L, w.cell? p.1 = some p.2 ∧ w.frozen? p.1 = false
def Keeps (B : Nat) (L : List (Addr × Value)) (w0 w : World) : Prop :=
  Below w0.heap.size w0 w ∧ B ≤ w.heap.size ∧ (∀ p ∈ L, p.1.block < B) ∧ cellsAre L w

theorem cellsAre_nil (w : World) : cellsAre [] w ↔ True := by simp [cellsAre]
theorem cellsAre_cons (p : Addr × Value) (L : List (Addr × Value)) (w : World) : cellsAre (p :: L) w ↔ (w.cell? p.1 = some p.2 ∧ w.frozen? p.1 = false) ∧ cellsAre L w := by
  simp [cellsAre]

theorem Keeps.below {B : Nat} {L : List (Addr × Value)} {w0 w w' : World} (h : Keeps B L w0 w) (hb : Below w.heap.size w w') : Keeps B L w0 w' := by
  obtain ⟨h1, h2, h3, h4⟩ := h
  refine ⟨h1.trans (hb.mono h1.size), Nat.le_trans h2 hb.size, h3, fun p hp => ?_⟩
  have := h3 p hp
  rw [hb.cell (p := p.1) (by omega), hb.frozen (p := p.1) (by omega)]
  exact h4 p hp
theorem Keeps.setCell {B : Nat} {L : List (Addr × Value)} {w0 w : World} (h : Keeps B L w0 w) {a : Addr} (ha : B ≤ a.block) (hB : w0.heap.size ≤ a.block) (v : Value) : Keeps B L w0 (w.setCell a v) := by
  obtain ⟨h1, h2, h3, h4⟩ := h
  refine ⟨h1.setCell hB v, by simpa using h2, h3, fun p hp => ?_⟩
  have := h3 p hp
  have hne : a.block ≠ p.1.block := by omega
  rw [World.cell?_setCell_far _ _ _ _ hne, World.frozen?_setCell]
  exact h4 p hp
theorem Keeps.drew {B : Nat} {L : List (Addr × Value)} {w0 w : World} (h : Keeps B L w0 w) : Keeps B L w0 w.drew := h.below (Below.refl _ _).drew
theorem Keeps.alloc {B : Nat} {L : List (Addr × Value)} {w0 w : World} (h : Keeps B L w0 w) (o : Obj) : Keeps B L w0 (w.alloc o) := h.below ((Below.refl _ _).alloc (Nat.le_refl _) o)
theorem Keeps.more {B B' : Nat} {L L2 : List (Addr × Value)} {w0 w : World} (h : Keeps B L w0 w) (hB : B ≤ B') (hs : B' ≤ w.heap.size) (hb : ∀ p ∈ L2, p.1.block < B') (hc : cellsAre L2 w) : Keeps B' (L2 ++ L) w0 w := by
  obtain ⟨h1, h2, h3, h4⟩ := h
  refine ⟨h1, hs, fun p hp => ?_, fun p hp => ?_⟩
  · rcases List.mem_append.1 hp with hp | hp
    · exact hb p hp
    · have := h3 p hp; omega
  · rcases List.mem_append.1 hp with hp | hp
    · exact hc p hp
    · exact h4 p hp
/-- Cells that are no longer of interest. -/
theorem Keeps.sub {B B' : Nat} {L L' : List (Addr × Value)} {w0 w : World} (h : Keeps B L w0 w) (hB : B' ≤ B) (hL : ∀ p ∈ L', p ∈ L ∧ p.1.block < B') : Keeps B' L' w0 w :=
  ⟨h.1, Nat.le_trans hB h.2.1, fun p hp => (hL p hp).2, fun p hp => h.2.2.2 p (hL p hp).1⟩
/-- The world behind a letter of which S is known. -/
theorem abs_at {Q : Exit → Act → World → Prop} {e : Exit} {a : Act} {w : World} (S : World → Prop) (hS : S w) (h : ∀ w', S w' → Q e a w') : Q e a w := h w hS
theorem abs_code {P : Program} {c : Code} {Q : Exit → Act → World → Prop} {a : Act} {w : World} (S : World → Prop) (hS : S w) (h : ∀ w', S w' → c.wp P Q a w') : c.wp P Q a w := h w hS
theorem Keeps.to_below {B : Nat} {L : List (Addr × Value)} {w0 w : World} (h : Keeps B L w0 w) : Below w0.heap.size w0 w := h.1
end Go.Sq
