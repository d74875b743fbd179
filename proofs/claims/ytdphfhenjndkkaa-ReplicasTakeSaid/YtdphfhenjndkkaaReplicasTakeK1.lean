/-
  A region that draws its order, walked in the order of its text: a first part whose operations keep one condition on the world, then a chain.
  Words for memory: a block that is known whole; only one block has turned; a slice that reads as a list.
  A region that draws its order, walked by a schedule: quiet operations wherever one likes, the others where they are the only one that may come next.
  A slice of entries, read as a list.
  The walks over Equal, Prefix, Rising, and over chapter 15's SameLog.
  What aggregates decide, in plain Lean: no program in sight.
-/
import Derived.WalkKit
import Derived.OrdersHeld
import Derived.Deep.RegionHeld3
import Derived.Below
import Derived.Laws.OwnMore
import Derived.Deep.AppendLies
import Derived.Deep.Draws
import Derived.Laws.Rows
import Derived.Maps.AppendAt
import Derived.RegionTactic
import Derived.OwnWalk
import Derived.Laws.MakeOwn
import Derived.Laws.StructEq
import Derived.Test.YtdphfhenjndkkaaProg
import Derived.WalkSpells
import Derived.WalkLawsBesides
import Derived.RowKit3
import Derived.Lib.Hide
import Derived.Deep.LoopGhost
set_option linter.unusedSimpArgs false
set_option linter.unusedVariables false
set_option maxRecDepth 100000
namespace Go.Sq
open Go Go.RowKit

section
variable {P : Program} {ops : Array Oper} {Q : Exit → Act → World → Prop} {md : Region.Mode} {S : World → Prop}

/-- At the operands 'ρ', in the world 'w', operation 'o' comes to 'v', and S holds behind it. -/
def Gives (P : Program) (S : World → Prop) (o : Oper) (v : Value) (ρ : Operand → Value) (w : World) : Prop :=
  match (execOp ρ o).run P w with
  | .ok (.value u) w' => u = v ∧ S w'
  | .ok (.enter f args) w' => Calls P f args w' fun e w'' => e = .returned v ∧ S w''
  | _ => False

theorem Gives.wp {o : Oper} {v : Value} {a : Act} {w : World} (h : Gives P S o v a.eval w) {K : Act → World → Prop}
    (hK : ∀ w', S w' → K (a.put o.dst v) w') : o.wp P a w K Q := by
  unfold Gives at h
  unfold Oper.wp
  generalize (execOp a.eval o).run P w = r at *
  cases r with
  | ok n w' =>
    cases n <;> simp only [Oper.upon] at h ⊢
    case value u => obtain ⟨rfl, hs⟩ := h; exact hK _ hs
    case enter f args =>
      refine Calls.mono h fun e w'' he => ?_
      obtain ⟨rfl, hs⟩ := he
      exact hK _ hs
  | halt x w' => exact h.elim

/-- One step: the operation is wanted and comes to v in every world that meets S, or it is not wanted. -/
def StepS (P : Program) (ops : Array Oper) (S : World → Prop) (o : Oper) (v : Value) (a : Act) : Prop :=
  (Region.wanted o (yielded ops a.tmps) = true ∧ ∀ w, S w → Gives P S o v a.eval w) ∨
  (Region.wanted o (yielded ops a.tmps) = false ∧ v = undef)

theorem StepS.of_same {o : Oper} {v : Value} {a a' : Act} (hy : StepS P ops S o v a) (he : execOp a'.eval o = execOp a.eval o)
    (hw : Region.wanted o (yielded ops a'.tmps) = Region.wanted o (yielded ops a.tmps)) : StepS P ops S o v a' := by
  unfold StepS Gives at *
  rw [he, hw]
  exact hy

theorem StepS.wpOp {i : Nat} {o : Oper} {v : Value} {a : Act} (hi : ops[i]? = some o) (hy : StepS P ops S o v a)
    {K : Act → World → Prop} {w : World} (hS : S w) (h : ∀ w', S w' → K (a.put o.dst v) w') : wpOp P ops Q i K a w := by
  unfold Go.wpOp
  simp only [hi]
  rcases hy with ⟨hw, hv⟩ | ⟨hw, rfl⟩
  · simp only [hw, if_true]; exact .inl ((hv w hS).wp h)
  · simp only [hw, Bool.false_eq_true, if_false]; exact h w hS

/-- Whatever order is picked: each step is fixed by the frame alone; behind so many steps 'R' holds. -/
def AnyU (P : Program) (md : Region.Mode) (ops : Array Oper) (S : World → Prop) (R : Array Bool → Act → Prop) : Nat → Array Bool → Act → Prop
  | 0, listed, a => R listed a
  | fuel + 1, listed, a => (Region.ready md ops listed ≠ []) ∧
    ∀ i ∈ Region.ready md ops listed, ∃ o v, ops[i]? = some o ∧ StepS P ops S o v a ∧ AnyU P md ops S R fuel (listed.setIfInBounds i true) (a.put o.dst v)

/-- How many of the first k have not come up. -/
def left (k : Nat) (listed : Array Bool) : Nat := (List.range k).countP fun i => !listed.getD i true

theorem countP_two {p : Nat → Bool} {i j : Nat} (hne : i ≠ j) (hi : p i = true) (hj : p j = true) :
    ∀ l : List Nat, i ∈ l → j ∈ l → 2 ≤ l.countP p
  | [], h, _ => by cases h
  | x :: l, h1, h2 => by
    by_cases hx : i = x
    · subst hx
      have h2' : j ∈ l := by rcases List.mem_cons.1 h2 with h | h; · exact absurd h.symm hne
                             · exact h
      have : 0 < l.countP p := List.countP_pos_iff.2 ⟨j, h2', hj⟩
      rw [List.countP_cons_of_pos hi]; omega
    · have h1' : i ∈ l := by rcases List.mem_cons.1 h1 with h | h; · exact absurd h hx
                             · exact h
      by_cases hy : j = x
      · subst hy
        have : 0 < l.countP p := List.countP_pos_iff.2 ⟨i, h1', hi⟩
        rw [List.countP_cons_of_pos hj]; omega
      · have h2' : j ∈ l := by rcases List.mem_cons.1 h2 with h | h; · exact absurd h hy
                               · exact h
        have := countP_two hne hi hj l h1' h2'
        rw [List.countP_cons]; omega

theorem left_set {k i : Nat} {listed : Array Bool} (hi : i < k) (hu : listed.getD i true = false) : left k listed = left k (listed.setIfInBounds i true) + 1 := by
  have hlt : i < listed.size := by
    rcases Nat.lt_or_ge i listed.size with h | h
    · exact h
    · simp [Array.getElem?_eq_none h] at hu
  unfold left
  have key : ∀ l : List Nat, l.Nodup → i ∈ l → l.countP (fun i => !listed.getD i true) = l.countP (fun j => !(listed.setIfInBounds i true).getD j true) + 1 := by
    intro l hn hm
    induction l with
    | nil => cases hm
    | cons x l ih =>
      rw [List.nodup_cons] at hn
      by_cases hx : i = x
      · subst hx
        have hsame : l.countP (fun i => !listed.getD i true) = l.countP (fun j => !(listed.setIfInBounds i true).getD j true) := by
          apply List.countP_congr
          intro y hy
          have hne : i ≠ y := fun e => hn.1 (e ▸ hy)
          rw [getD_set_ne true hne]
        rw [List.countP_cons_of_pos (by simp [hu]), List.countP_cons_of_neg (by simp [hlt]), hsame]
      · have hm' : i ∈ l := by rcases List.mem_cons.1 hm with h | h; · exact absurd h hx
                               · exact h
        have h1 := ih hn.2 hm'
        rw [List.countP_cons, List.countP_cons, h1, getD_set_ne true hx]
        omega
  exact key _ List.nodup_range (List.mem_range.2 hi)

/-- None of the operations from k on may come up before all ahead of k have. -/
def closed (md : Region.Mode) (ops : Array Oper) (k : Nat) : Bool :=
  (List.range ops.size).all fun j => decide (j < k) || match ops[j]? with
    | some oj => oj.after.any (fun e => Region.binds md e && decide (k ≤ e.on)) || (List.range k).all fun i => oj.after.any fun e => Region.binds md e && e.on == i
    | none => true

theorem ready_lt {k : Nat} {listed : Array Bool} (hc : closed md ops k = true) (hl : ∀ j, k ≤ j → listed.getD j false = false)
    {i : Nat} (hik : i < k) (hi : listed.getD i true = false) {j : Nat} (hj : j ∈ Region.ready md ops listed) : j < k := by
  obtain ⟨hjun, oj, hoj, hall⟩ := mem_ready.1 hj
  have hlt : j < ops.size := (Array.getElem?_eq_some_iff.1 hoj).1
  simp only [closed, List.all_eq_true, List.mem_range] at hc
  have h1 := hc j hlt
  simp only [hoj, Bool.or_eq_true, decide_eq_true_eq, List.all_eq_true, List.mem_range] at h1
  rcases h1 with h1 | h1 | h1
  · exact h1
  · obtain ⟨e, he, hb⟩ := Array.any_eq_true'.1 h1
    simp only [Bool.and_eq_true, decide_eq_true_eq] at hb
    have := hall e he hb.1
    rw [hl _ hb.2] at this
    cases this
  · obtain ⟨e, he, hb⟩ := Array.any_eq_true'.1 (h1 i hik)
    simp only [Bool.and_eq_true, beq_iff_eq] at hb
    have h2 := hall e he hb.1
    rw [hb.2] at h2
    have hlt : i < listed.size := by
      rcases Nat.lt_or_ge i listed.size with h | h
      · exact h
      · simp [Array.getElem?_eq_none h] at hi
    simp [hlt] at hi h2
    rw [hi] at h2; cases h2

theorem AnyU_first {R : Array Bool → Act → Prop} {k i : Nat} {oi : Oper} {v : Value} (hi : ops[i]? = some oi) (hik : i < k) (hc : closed md ops k = true)
    (hsel : ∀ (j : Nat) (o : Oper) cs b, ops[j]? = some o → o.op ≠ .select cs b) :
    ∀ (fuel : Nat) (listed : Array Bool) (a : Act), left k listed = fuel + 1 → (∀ j, k ≤ j → listed.getD j false = false) →
      (∀ j oj, ops[j]? = some oj → j ≠ i → listed.getD j true = false → (∀ e ∈ oj.after, Region.binds md e = true → e.on ≠ i) → oi.apart ops oj = true) →
      i ∈ Region.ready md ops listed → StepS P ops S oi v a →
      AnyU P md ops S R fuel (listed.setIfInBounds i true) (a.put oi.dst v) → AnyU P md ops S R (fuel + 1) listed a := by
  intro fuel
  induction fuel with
  | zero =>
    intro listed a hleft hl _ hr hy H
    refine ⟨fun h => (by rw [h] at hr; cases hr), fun j hj => ?_⟩
    have hiu := (mem_ready.1 hr).1
    have hju := (mem_ready.1 hj).1
    have hjk := ready_lt hc hl hik hiu hj
    have : j = i := by
      by_cases hne : i = j
      · exact hne.symm
      · have := countP_two (p := fun i => !listed.getD i true) hne (by simp only [hiu, Bool.not_false]) (by simp only [hju, Bool.not_false]) (List.range k) (List.mem_range.2 hik) (List.mem_range.2 hjk)
        unfold left at hleft; omega
    subst this
    exact ⟨oi, v, hi, hy, H⟩
  | succ fuel ih =>
    intro listed a hleft hl hfree hr hy H
    refine ⟨fun h => (by rw [h] at hr; cases hr), fun j hj => ?_⟩
    by_cases hji : j = i
    · subst hji; exact ⟨oi, v, hi, hy, H⟩
    · obtain ⟨oj, u, hoj', hyj, Hj⟩ := H.2 j (ready_mono hj hji)
      obtain ⟨hjun, oj', hoj, hall⟩ := mem_ready.1 hj
      obtain rfl : oj = oj' := by rw [hoj] at hoj'; cases hoj'; rfl
      have hjk := ready_lt hc hl hik (mem_ready.1 hr).1 hj
      have hnot : ∀ e ∈ oj.after, Region.binds md e = true → e.on ≠ i := fun e he hb heq => by
        have h1 := hall e he hb
        have h0 := (mem_ready.1 hr).1
        rw [heq] at h1
        rcases Nat.lt_or_ge i listed.size with h' | h'
        · simp [h'] at h0 h1; rw [h0] at h1; cases h1
        · simp [Array.getElem?_eq_none h'] at h1
      obtain ⟨h1, h2, h3⟩ := Oper.apart_spec (hfree j oj hoj hji hjun hnot)
      have hyj' : StepS P ops S oj u a := hyj.of_same (execOp_put oj (fun cs b => hsel j oj cs b hoj) a oi.dst v h1).symm (wanted_put oj a oi.dst v h1).symm
      have hyi' : StepS P ops S oi v (a.put oj.dst u) := hy.of_same (execOp_put oi (fun cs b => hsel i oi cs b hi) a oj.dst u h3) (wanted_put oi a oj.dst u h3)
      refine ⟨oj, u, hoj, hyj', ?_⟩
      have hfree' : ∀ k ok, ops[k]? = some ok → k ≠ i → (listed.setIfInBounds j true).getD k true = false →
          (∀ e ∈ ok.after, Region.binds md e = true → e.on ≠ i) → oi.apart ops ok = true := fun k ok hk hki hun hno => by
        refine hfree k ok hk hki ?_ hno
        by_cases hjk : j = k
        · subst hjk; exact hjun
        · rw [getD_set_ne true hjk] at hun; exact hun
      have hl' : ∀ m, k ≤ m → (listed.setIfInBounds j true).getD m false = false := fun m hm => by rw [getD_set_ne false (by omega)]; exact hl m hm
      have hleft' := left_set hjk hjun
      refine ih (listed.setIfInBounds j true) (a.put oj.dst u) (by omega) hl' hfree' (ready_mono hr (Ne.symm hji)) hyi' ?_
      rw [Array.setIfInBounds_comm _ _ hji, ← Act.put_comm a v u h2]
      exact Hj

/-- A walk over the first k operations, in the order of the text. -/
def SeqS (P : Program) (ops : Array Oper) (S : World → Prop) (R : Act → Prop) : List Oper → Act → Prop
  | [], a => R a
  | o :: rest, a => ∃ v, StepS P ops S o v a ∧ SeqS P ops S R rest (a.put o.dst v)

/-- Which have come up: the first i of n. -/
def upto (n i : Nat) : Array Bool := (List.range n).toArray.map fun j => decide (j < i)

/-- The order of the text is one that the edges allow, and at each place whoever could come ahead of it is apart from it. -/
def inOrder (md : Region.Mode) (ops : Array Oper) (k : Nat) : Bool :=
  Region.noSelect ops && closed md ops k && decide (k ≤ ops.size) && (List.range k).all fun i => (Region.ready md ops (upto ops.size i)).contains i && Region.free md ops (upto ops.size i) i

theorem upto_get {n i j : Nat} (d : Bool) (h : j < n) : (upto n i).getD j d = decide (j < i) := by
  simp [upto, h]

theorem upto_set {n i : Nat} (_h : i < n) : (upto n i).setIfInBounds i true = upto n (i + 1) := by
  apply Array.ext
  · simp [upto]
  · intro j h1 h2
    have hjn : j < n := by simpa [upto] using h2
    by_cases hij : i = j
    · subst hij; simp [upto]
    · rw [Array.getElem_setIfInBounds_ne (by simpa [upto] using hjn) hij]
      simp [upto]
      omega

theorem left_upto {n k : Nat} (hkn : k ≤ n) : ∀ i, i ≤ k → left k (upto n i) = k - i := by
  intro i
  induction i with
  | zero =>
    intro _
    unfold left
    have : (List.range k).countP (fun i => !(upto n 0).getD i true) = (List.range k).length := by
      rw [List.countP_eq_length]
      intro j hj
      have := List.mem_range.1 hj
      rw [upto_get true (by omega)]; simp
    rw [this]; simp
  | succ i ih =>
    intro hi
    have h1 := ih (by omega)
    have h2 := left_set (listed := upto n i) (show i < k from hi) (by rw [upto_get true (by omega)]; simp)
    rw [upto_set (by omega)] at h2
    omega

theorem anyU_of_seq {R : Act → Prop} {k : Nat} (hin : inOrder md ops k = true) : ∀ (m i : Nat) (a : Act), i + m = k →
    SeqS P ops S R ((ops.toList.drop i).take m) a → AnyU P md ops S (fun l a => l = upto ops.size k ∧ R a) m (upto ops.size i) a := by
  simp only [inOrder, Bool.and_eq_true, List.all_eq_true, List.mem_range, decide_eq_true_eq] at hin
  obtain ⟨⟨⟨hsel, hc⟩, hk⟩, hall⟩ := hin
  intro m
  induction m with
  | zero => intro i a hi h; simp at hi; subst hi; exact ⟨rfl, by simpa [SeqS] using h⟩
  | succ m ih =>
    intro i a hi h
    have hlt : i < ops.size := by omega
    have hd : ops.toList.drop i = ops[i] :: ops.toList.drop (i + 1) := by
      rw [List.drop_eq_getElem_cons (by simpa using hlt)]; simp
    rw [hd, List.take_succ_cons] at h
    obtain ⟨v, hs, hrest⟩ := h
    have hio : ops[i]? = some ops[i] := Array.getElem?_eq_getElem hlt
    have hri := hall i (by omega)
    refine AnyU_first hio (show i < k by omega) hc (Region.noSelect_spec hsel) m (upto ops.size i) a ?_ ?_ ?_ (by simpa using hri.1) hs ?_
    · rw [left_upto hk i (by omega)]; omega
    · intro j hj
      rcases Nat.lt_or_ge j ops.size with h' | h'
      · rw [upto_get false h']; simp; omega
      · simp [upto, h']
    · exact Region.free_spec hio hri.2
    · rw [upto_set hlt]
      exact ih (i + 1) _ (by omega) hrest

theorem wpAny_of_U {R : Array Bool → Act → Prop} {n : Nat} (hR : ∀ l a, R l a → ∀ w, S w → wpAny P md ops Q n l a w) :
    ∀ (m : Nat) (listed : Array Bool) (a : Act), AnyU P md ops S R m listed a → ∀ w, S w → wpAny P md ops Q (m + n) listed a w := by
  intro m
  induction m with
  | zero => intro listed a h w hw; rw [Nat.zero_add]; exact hR _ _ h w hw
  | succ m ih =>
    intro listed a h w hw
    rw [show m + 1 + n = (m + n) + 1 from by omega]
    refine ⟨fun h0 => absurd h0 h.1, fun i hi => ?_⟩
    obtain ⟨o, v, ho, hs, hr⟩ := h.2 i hi
    exact hs.wpOp ho hw fun w' hw' => ih _ _ hr w' hw'

/-- From operation k on each one waits for the one ahead of it (and may come up then). -/
def chain (md : Region.Mode) (ops : Array Oper) (k : Nat) : Bool :=
  (List.range ops.size).all fun j => decide (j < k) || (Region.ready md ops (upto ops.size j) == [j])

theorem ready_full : Region.ready md ops (upto ops.size ops.size) = [] := by
  rw [List.eq_nil_iff_forall_not_mem]
  intro j hj
  obtain ⟨hu, o, ho, _⟩ := mem_ready.1 hj
  have hlt : j < ops.size := (Array.getElem?_eq_some_iff.1 ho).1
  rw [upto_get true hlt] at hu
  simp at hu; omega

theorem wpAny_chain {k : Nat} (hch : chain md ops k = true) : ∀ (m i : Nat) (a : Act) (w : World), i + m = ops.size → k ≤ i →
    wpList P ops Q (ops.toList.drop i) a w → wpAny P md ops Q m (upto ops.size i) a w := by
  intro m
  induction m with
  | zero =>
    intro i a w hi _ h
    simp at hi; subst hi
    rw [List.drop_of_length_le (by simp)] at h
    exact ⟨ready_full, h⟩
  | succ m ih =>
    intro i a w hi hki h
    have hlt : i < ops.size := by omega
    have hd : ops.toList.drop i = ops[i] :: ops.toList.drop (i + 1) := by
      rw [List.drop_eq_getElem_cons (by simpa using hlt)]; simp
    rw [hd] at h
    have hrd : Region.ready md ops (upto ops.size i) = [i] := by
      simp only [chain, List.all_eq_true, List.mem_range] at hch
      have := hch i hlt
      simp only [Bool.or_eq_true, decide_eq_true_eq, beq_iff_eq] at this
      rcases this with h | h
      · omega
      · exact h
    have hmono : ∀ a w, wpList P ops Q (ops.toList.drop (i + 1)) a w → wpAny P md ops Q m ((upto ops.size i).setIfInBounds i true) a w := fun a w h => by
      rw [upto_set hlt]; exact ih (i + 1) a w (by omega) (by omega) h
    refine ⟨fun h0 => (by rw [hrd] at h0; cases h0), fun j hj => ?_⟩
    rw [hrd] at hj
    obtain rfl : j = i := by simpa using hj
    unfold wpOp
    simp only [Array.getElem?_eq_getElem hlt]
    unfold wpList at h
    split
    · rename_i hw; rw [if_pos hw] at h; exact h.imp (Oper.wp_mono hmono) id
    · rename_i hw; rw [if_neg hw] at h; exact hmono _ _ h

/-! ### The static check, said so that the kernel reckons it quickly -/
def binds' (e : Edge) : Bool := match e.ground with | .textOnly _ => false | .gcOnly _ => false | _ => true
theorem binds'_eq (e : Edge) : binds' e = Region.binds .any e := by
  unfold binds' Region.binds; cases e.ground <;> rfl
def waitsFor (i : Nat) : List Edge → Bool
  | [] => false
  | e :: l => (Nat.beq e.on i && binds' e) || waitsFor i l
def allBelow (i : Nat) : List Edge → Bool
  | [] => true
  | e :: l => (Nat.blt e.on i || !binds' e) && allBelow i l
def behindOk (ops : Array Oper) (o : Oper) (i : Nat) : List Oper → Bool
  | [] => true
  | oj :: l => (waitsFor i oj.after.toList || o.apart ops oj) && behindOk ops o i l
def seqOk (ops : Array Oper) : Nat → Nat → List Oper → Bool
  | 0, _, _ => true
  | k + 1, i, o :: l => allBelow i o.after.toList && behindOk ops o i l && seqOk ops k (i + 1) l
  | _ + 1, _, [] => false
/-- Each of these waits for all below k, or for one from k on. -/
def tailOk (k : Nat) : List Oper → Bool
  | [] => true
  | o :: l => (o.after.toList.any (fun e => binds' e && Nat.ble k e.on) || (List.range k).all fun i => waitsFor i o.after.toList) && tailOk k l
def noSel : List Oper → Bool
  | [] => true
  | o :: l => (match o.op with | .select .. => false | _ => true) && noSel l

theorem waitsFor_iff {i : Nat} : ∀ {l : List Edge}, waitsFor i l = true ↔ ∃ e ∈ l, Region.binds .any e = true ∧ e.on = i
  | [] => by simp [waitsFor]
  | e :: l => by
    simp only [waitsFor, Bool.or_eq_true, Bool.and_eq_true, waitsFor_iff (l := l), binds'_eq, List.mem_cons, Nat.beq_eq]
    constructor
    · rintro (⟨h1, h2⟩ | ⟨e', h1, h2⟩)
      · exact ⟨e, .inl rfl, h2, h1⟩
      · exact ⟨e', .inr h1, h2⟩
    · rintro ⟨e', rfl | h1, h2⟩
      · exact .inl ⟨h2.2, h2.1⟩
      · exact .inr ⟨e', h1, h2⟩

theorem allBelow_iff {i : Nat} : ∀ {l : List Edge}, allBelow i l = true ↔ ∀ e ∈ l, Region.binds .any e = true → e.on < i
  | [] => by simp [allBelow]
  | e :: l => by
    simp only [allBelow, Bool.and_eq_true, Bool.or_eq_true, allBelow_iff (l := l), List.forall_mem_cons, binds'_eq, Bool.not_eq_true']
    have hb : Nat.blt e.on i = true ↔ e.on < i := by simp [Nat.blt_eq]
    rw [hb]
    constructor
    · rintro ⟨h1, h2⟩
      refine ⟨fun hb => ?_, h2⟩
      rcases h1 with h1 | h1
      · exact h1
      · rw [hb] at h1; cases h1
    · rintro ⟨h1, h2⟩
      refine ⟨?_, h2⟩
      by_cases hb : Region.binds .any e = true
      · exact .inl (h1 hb)
      · exact .inr (by simpa using hb)

theorem behindOk_spec {o : Oper} {i : Nat} : ∀ {l : List Oper}, behindOk ops o i l = true → ∀ oj ∈ l, waitsFor i oj.after.toList = true ∨ o.apart ops oj = true
  | [], _ => by simp
  | x :: l, h => by
    simp only [behindOk, Bool.and_eq_true, Bool.or_eq_true] at h
    intro oj hj
    rcases List.mem_cons.1 hj with rfl | hj
    · exact h.1
    · exact behindOk_spec h.2 oj hj

theorem seqOk_spec : ∀ (k i : Nat) (l : List Oper), seqOk ops k i l = true → k ≤ l.length ∧ ∀ m, m < k → ∃ o, l[m]? = some o ∧ allBelow (i + m) o.after.toList = true ∧ ∀ (n : Nat) (oj : Oper), m < n → l[n]? = some oj → waitsFor (i + m) oj.after.toList = true ∨ o.apart ops oj = true
  | 0, i, l, _ => ⟨Nat.zero_le _, fun m h => by omega⟩
  | k + 1, i, [], h => by simp [seqOk] at h
  | k + 1, i, o :: l, h => by
    simp only [seqOk, Bool.and_eq_true] at h
    obtain ⟨⟨h1, h2⟩, h3⟩ := h
    obtain ⟨h4, h5⟩ := seqOk_spec k (i + 1) l h3
    refine ⟨by simp; omega, fun m hm => ?_⟩
    cases m with
    | zero =>
      refine ⟨o, rfl, h1, fun n oj hn hj => ?_⟩
      obtain ⟨n, rfl⟩ : ∃ n', n = n' + 1 := ⟨n - 1, by omega⟩
      exact behindOk_spec h2 oj (List.mem_of_getElem? (by simpa using hj))
    | succ m =>
      obtain ⟨o', ho', hb, hr⟩ := h5 m (by omega)
      refine ⟨o', by simpa using ho', by rw [show i + (m + 1) = i + 1 + m from by omega]; exact hb, fun n oj hn hj => ?_⟩
      obtain ⟨n, rfl⟩ : ∃ n', n = n' + 1 := ⟨n - 1, by omega⟩
      rw [show i + (m + 1) = i + 1 + m from by omega]
      exact hr n oj (by omega) (by simpa using hj)

theorem tailOk_spec {k : Nat} : ∀ {l : List Oper}, tailOk k l = true → ∀ o ∈ l, (o.after.toList.any (fun e => binds' e && Nat.ble k e.on) = true) ∨ ∀ i, i < k → waitsFor i o.after.toList = true
  | [], _ => by simp
  | x :: l, h => by
    simp only [tailOk, Bool.and_eq_true, Bool.or_eq_true, List.all_eq_true, List.mem_range] at h
    intro o ho
    rcases List.mem_cons.1 ho with rfl | ho
    · exact h.1
    · exact tailOk_spec h.2 o ho

theorem noSel_spec : ∀ {l : List Oper}, noSel l = true → ∀ o ∈ l, (match o.op with | .select .. => false | _ => true) = true
  | [], _ => by simp
  | x :: l, h => by
    simp only [noSel, Bool.and_eq_true] at h
    intro o ho
    rcases List.mem_cons.1 ho with rfl | ho
    · exact h.1
    · exact noSel_spec h.2 o ho

def quick (ops : Array Oper) (k : Nat) : Bool := noSel ops.toList && seqOk ops k 0 ops.toList && tailOk k (ops.toList.drop k)

theorem inOrder_of_quick {k : Nat} (h : quick ops k = true) : inOrder .any ops k = true := by
  simp only [quick, Bool.and_eq_true] at h
  obtain ⟨⟨h1, h2⟩, h3⟩ := h
  obtain ⟨hk, hall⟩ := seqOk_spec k 0 _ h2
  simp only [Array.length_toList] at hk
  have hsel : Region.noSelect ops = true := by
    unfold Region.noSelect
    rw [← Array.all_toList, List.all_eq_true]
    exact noSel_spec h1
  have hcl : closed .any ops k = true := by
    simp only [closed, List.all_eq_true, List.mem_range]
    intro j hj
    by_cases hjk : j < k
    · simp [hjk]
    · have ho : ops[j]? = some ops[j] := Array.getElem?_eq_getElem hj
      simp only [ho, Bool.or_eq_true]
      refine .inr ?_
      have hm : ops[j] ∈ ops.toList.drop k := by
        rw [List.mem_iff_getElem?]
        refine ⟨j - k, ?_⟩
        rw [List.getElem?_drop, show k + (j - k) = j from by omega]
        simp [hj]
      rcases tailOk_spec h3 _ hm with h | h
      · refine .inl ?_
        obtain ⟨e, he, hb⟩ := List.any_eq_true.1 h
        simp only [Bool.and_eq_true, binds'_eq, Nat.ble_eq] at hb
        exact Array.any_eq_true'.2 ⟨e, by simpa using he, by simp [hb.1, hb.2]⟩
      · refine .inr ?_
        rw [List.all_eq_true]
        intro i hi
        obtain ⟨e, he, hb⟩ := waitsFor_iff.1 (h i (List.mem_range.1 hi))
        exact Array.any_eq_true'.2 ⟨e, by simpa using he, by simp [hb.1, hb.2]⟩
  simp only [inOrder, hsel, hcl, Bool.true_and, Bool.and_eq_true, decide_eq_true_eq, List.all_eq_true, List.mem_range]
  refine ⟨hk, fun i hi => ?_⟩
  obtain ⟨o, ho, hb, hr⟩ := hall i hi
  have ho' : ops[i]? = some o := by simpa using ho
  have hlt : i < ops.size := by omega
  simp only [Nat.zero_add] at hb hr
  constructor
  · have : i ∈ Region.ready .any ops (upto ops.size i) := by
      rw [mem_ready]
      refine ⟨by rw [upto_get true hlt]; simp, o, ho', fun e he hbd => ?_⟩
      have := allBelow_iff.1 hb e (by simpa using he) hbd
      rw [upto_get false (by omega)]
      simp [this]
    simpa using this
  · simp only [Region.free, ho', List.all_eq_true, List.mem_range]
    intro j hj
    by_cases hji : j = i
    · simp [hji]
    · by_cases hlo : j < i
      · rw [upto_get true hj]; simp [hlo]
      · have hoj : ops[j]? = some ops[j] := Array.getElem?_eq_getElem hj
        rcases hr j ops[j] (by omega) (by simp [hj]) with h | h
        · obtain ⟨e, he, hb⟩ := waitsFor_iff.1 h
          have : (ops[j].after.any fun e => Region.binds .any e && e.on == i) = true := Array.any_eq_true'.2 ⟨e, by simpa using he, by simp [hb.1, hb.2]⟩
          simp [hoj, this]
        · simp [hoj, h]

/-- THE RULE. A region that draws its order: its first k operations in the order of the text, each coming to one value in every world that meets S and keeping S; the others wait, one for the other. -/
theorem wp_region_seq {id : Nat} {a : Act} {w : World} (k : Nat) (S : World → Prop) (hm : P.follows .mixedOrders = true)
    (hin : inOrder .any ops k = true) (hch : chain .any ops k = true) (hS : S w.drew)
    (h : SeqS P ops S (fun a => ∀ w, S w → wpList P ops Q (ops.toList.drop k) a w) (ops.toList.take k) a) : (Code.region id ops true).wp P Q a w := by
  refine wp_region_any hm ?_
  have hk : k ≤ ops.size := by
    simp only [inOrder, Bool.and_eq_true, decide_eq_true_eq] at hin
    exact hin.1.2
  have h1 := anyU_of_seq (md := .any) (ops := ops) hin k 0 a (by omega) (by simpa using h)
  have h2 := wpAny_of_U (P := P) (md := .any) (ops := ops) (Q := Q) (S := S) (n := ops.size - k) (fun l a hl w hw => by
    obtain ⟨rfl, hR⟩ := hl
    exact wpAny_chain hch (ops.size - k) k a w (by omega) (Nat.le_refl _) (hR w hw)) k _ a h1 w.drew hS
  rw [show k + (ops.size - k) = ops.size from by omega] at h2
  have h3 : upto ops.size 0 = Array.replicate ops.size false := by
    apply Array.ext
    · simp [upto]
    · intro j _ _; simp [upto]
  rw [h3] at h2
  exact h2

/-! ### The walk with small goals: of the region only the list of what each operation writes is kept in sight -/
/-- Is the operation wanted, by what the guard's temporary holds? -/
def wantedD (ds : List (Option Tmp)) (o : Oper) (tmps : Array Value) : Bool :=
  match o.guard with
  | none => true
  | some (g, want) => (match (ds[g]?.join).bind (tmps[·]?) with | some (.bool b) => some b | _ => none) == some want

theorem wantedD_eq {ds : List (Option Tmp)} (hds : ops.toList.map (·.dst) = ds) (o : Oper) (tmps : Array Value) : Region.wanted o (yielded ops tmps) = wantedD ds o tmps := by
  subst hds
  unfold Region.wanted wantedD
  cases hg : o.guard with
  | none => rfl
  | some gw =>
    obtain ⟨g, want⟩ := gw
    simp only [yielded, List.getElem?_map, Array.getElem?_toList]
    cases ho : ops[g]? with
    | none => simp
    | some og =>
      cases hd : og.dst with
      | none => simp [hd]
      | some d => simp only [Option.bind_some, Option.map_some, Option.join_some, hd]; rfl

/-- The walk. -/
def SeqD (P : Program) (ds : List (Option Tmp)) (S : World → Prop) (K : Act → Prop) : List Oper → Act → Prop
  | [], a => K a
  | o :: rest, a => ∃ v, ((wantedD ds o a.tmps = true ∧ ∀ w, S w → Gives P S o v a.eval w) ∨ (wantedD ds o a.tmps = false ∧ v = undef)) ∧ SeqD P ds S K rest (a.put o.dst v)

theorem seqS_of_D {ds : List (Option Tmp)} (hds : ops.toList.map (·.dst) = ds) {K : Act → Prop} : ∀ (l : List Oper) (a : Act), SeqD P ds S K l a → SeqS P ops S K l a
  | [], _, h => h
  | o :: l, a, ⟨v, h, hr⟩ => ⟨v, by unfold StepS; rw [wantedD_eq hds]; exact h, seqS_of_D hds l _ hr⟩

/-- THE RULE, AS IT IS USED: the condition and what follows behind letters, so that the steps' goals stay small. -/
theorem wp_region_sq {id : Nat} {a : Act} {w : World} (k : Nat) (S : World → Prop) (hm : P.follows .mixedOrders = true)
    (hin : quick ops k = true) (hch : chain .any ops k = true) (hS : S w.drew) {ds : List (Option Tmp)} (hds : ops.toList.map (·.dst) = ds)
    (h : ∀ (K : Act → Prop) (T : World → Prop), (∀ a, (∀ w, S w → wpList P ops Q (ops.toList.drop k) a w) → K a) → (∀ w, T w → S w) → (∀ w, S w → T w) → SeqD P ds T K (ops.toList.take k) a) :
    (Code.region id ops true).wp P Q a w :=
  wp_region_seq k S hm (inOrder_of_quick hin) hch hS (seqS_of_D hds _ _ (h _ S (fun _ h => h) (fun _ h => h) fun _ h => h))

/-- The same, where every operation of the region keeps the condition. -/
theorem wp_region_all {id : Nat} {a : Act} {w : World} (S : World → Prop) (hm : P.follows .mixedOrders = true)
    (hin : quick ops ops.size = true) (hS : S w.drew) {ds : List (Option Tmp)} (hds : ops.toList.map (·.dst) = ds)
    (h : ∀ (K : Act → Prop) (T : World → Prop), (∀ a, (∀ w, S w → Q .normal a w) → K a) → (∀ w, T w → S w) → (∀ w, S w → T w) → SeqD P ds T K ops.toList a) :
    (Code.region id ops true).wp P Q a w := by
  refine wp_region_seq ops.size S hm (inOrder_of_quick hin) ?_ hS (seqS_of_D hds _ _ ?_)
  · simp only [chain, List.all_eq_true, List.mem_range, Bool.or_eq_true, decide_eq_true_eq]
    intro j hj; exact .inl hj
  · rw [← Array.length_toList, List.take_length]
    refine h _ S (fun a ha w hw => ?_) (fun _ h => h) (fun _ h => h)
    rw [List.drop_length]
    exact ha w hw

variable {K : Act → Prop} {T : World → Prop} {ds : List (Option Tmp)} {o : Oper} {rest : List Oper} {a : Act} {v : Value}
theorem SeqD.pure (hw : wantedD ds o a.tmps = true) (h : ∀ w, T w → (execOp a.eval o).run P w = .ok (.value v) w)
    (hr : SeqD P ds T K rest (a.put o.dst v)) : SeqD P ds T K (o :: rest) a :=
  ⟨v, .inl ⟨hw, fun w hS => by unfold Gives; rw [h w hS]; exact ⟨rfl, hS⟩⟩, hr⟩
theorem SeqD.step (hw : wantedD ds o a.tmps = true) (h : ∀ w, T w → ∃ w', (execOp a.eval o).run P w = .ok (.value v) w' ∧ T w')
    (hr : SeqD P ds T K rest (a.put o.dst v)) : SeqD P ds T K (o :: rest) a :=
  ⟨v, .inl ⟨hw, fun w hS => by obtain ⟨w', h1, h2⟩ := h w hS; unfold Gives; rw [h1]; exact ⟨rfl, h2⟩⟩, hr⟩
theorem SeqD.call {f : FuncId} {args : Array Value} {c : Call} (_hop : o.op = .call c) (hw : wantedD ds o a.tmps = true)
    (h : ∀ w, T w → (execOp a.eval o).run P w = .ok (.enter f args) w) (hc : ∀ w, T w → Calls P f args w fun e w' => e = .returned v ∧ T w')
    (hr : SeqD P ds T K rest (a.put o.dst v)) : SeqD P ds T K (o :: rest) a :=
  ⟨v, .inl ⟨hw, fun w hS => by unfold Gives; rw [h w hS]; exact hc w hS⟩, hr⟩
theorem SeqD.skip (hw : wantedD ds o a.tmps = false) (hr : SeqD P ds T K rest (a.put o.dst undef)) : SeqD P ds T K (o :: rest) a :=
  ⟨undef, .inr ⟨hw, rfl⟩, hr⟩
theorem SeqD.split {p : Bool} {g : Nat} {want : Bool} (_hg : o.guard = some (g, want)) (_hy : (match (ds[g]?.join).bind (a.tmps[·]?) with | some (.bool b) => some b | _ => none) = some p)
    (h1 : p = true → SeqD P ds T K (o :: rest) a) (h2 : p = false → SeqD P ds T K (o :: rest) a) : SeqD P ds T K (o :: rest) a := by
  cases p
  · exact h2 rfl
  · exact h1 rfl
theorem SeqD.nil (h : K a) : SeqD P ds T K [] a := h
end

/-! ### Quiet steps (the world stays just as it is) ahead of a chain of operations that may come up among them -/
section
variable {P : Program} {ops : Array Oper} {Q : Exit → Act → World → Prop} {md : Region.Mode} {S : World → Prop}

/-- In every world that meets S the operation comes to v and leaves the world as it is: by itself, or by a call. -/
def YieldsQ (P : Program) (ops : Array Oper) (S : World → Prop) (o : Oper) (v : Value) (a : Act) : Prop :=
  (Region.wanted o (yielded ops a.tmps) = true ∧ ∀ w, S w → Gives P (fun w' => w' = w) o v a.eval w) ∨
  (Region.wanted o (yielded ops a.tmps) = false ∧ v = undef)

theorem YieldsQ.of_same {o : Oper} {v : Value} {a a' : Act} (hy : YieldsQ P ops S o v a) (he : execOp a'.eval o = execOp a.eval o)
    (hw : Region.wanted o (yielded ops a'.tmps) = Region.wanted o (yielded ops a.tmps)) : YieldsQ P ops S o v a' := by
  unfold YieldsQ Gives at *
  rw [he, hw]
  exact hy

theorem YieldsQ.wpOp {i : Nat} {o : Oper} {v : Value} {a : Act} (hi : ops[i]? = some o) (hy : YieldsQ P ops S o v a)
    {K : Act → World → Prop} {w : World} (hS : S w) (h : K (a.put o.dst v) w) : wpOp P ops Q i K a w := by
  unfold Go.wpOp
  simp only [hi]
  rcases hy with ⟨hw, hv⟩ | ⟨hw, rfl⟩
  · simp only [hw, if_true]; exact .inl ((hv w hS).wp fun w' hw' => by subst hw'; exact h)
  · simp only [hw, Bool.false_eq_true, if_false]; exact h

theorem wpOp_putQ {j : Nat} {oi oj : Oper} {v : Value} (hj : ops[j]? = some oj) (hap : oi.apart ops oj = true)
    (hsi : ∀ cs b, oi.op ≠ .select cs b) (hsj : ∀ cs b, oj.op ≠ .select cs b)
    (hQ : ∀ c a w, Q (.panic c) (a.put oi.dst v) w → Q (.panic c) a w) {K : Act → World → Prop} {a : Act} {w : World}
    (hy : YieldsQ P ops S oi v a) (h : wpOp P ops Q j K (a.put oi.dst v) w) :
    wpOp P ops Q j (fun a' w' => YieldsQ P ops S oi v a' ∧ K (a'.put oi.dst v) w') a w := by
  obtain ⟨h1, h2, h3⟩ := Oper.apart_spec hap
  have keep : ∀ (a : Act), YieldsQ P ops S oi v a → ∀ u, YieldsQ P ops S oi v (a.put oj.dst u) := fun a hy u =>
    hy.of_same (execOp_put oi hsi a oj.dst u h3) (wanted_put oi a oj.dst u h3)
  have keepD : ∀ d, YieldsQ P ops S oi v { a with defers := d :: a.defers } := fun d => hy.of_same rfl rfl
  unfold wpOp at *
  simp only [hj] at *
  rw [wanted_put oj a oi.dst v h1] at h
  split
  · rename_i hw
    simp only [hw, if_true] at h
    rcases h with h | ⟨hasks, hlets⟩
    case inr => exact .inr ⟨by unfold Oper.asks at *; rw [execOp_put oj hsj a oi.dst v h1] at hasks; exact hasks, hlets⟩
    refine .inl ?_
    unfold Oper.wp at *
    rw [execOp_put oj hsj a oi.dst v h1] at h
    generalize (execOp a.eval oj).run P w = r at *
    cases r with
    | ok n w' =>
      cases n <;> simp only [Oper.upon] at h ⊢
      case value u => exact ⟨keep a hy u, by rw [← Act.put_comm a v u h2]; exact h⟩
      case skip => exact ⟨keep a hy _, by rw [← Act.put_comm a v undef h2]; exact h⟩
      case defer d =>
        refine ⟨keep _ (keepD d) _, ?_⟩
        rw [← Act.put_comm _ v undef h2, ← Act.put_defers]
        exact h
      case enter f args =>
        refine Calls.mono h fun e w'' he => ?_
        cases e with
        | returned u => exact ⟨keep a hy u, by rw [← Act.put_comm a v u h2]; exact he⟩
        | panicked c => exact hQ _ _ _ he
        | outgrown => exact he
      case row row args => exact Rows.mono h fun u w'' he => ⟨keep a hy u, by rw [← Act.put_comm a v u h2]; exact he⟩
    | halt x w' =>
      cases x <;> simp only [Oper.upon] at h ⊢
      case panic u => exact hQ _ _ _ h
  · rename_i hw
    simp only [hw] at h
    exact ⟨keep a hy _, by rw [← Act.put_comm a v undef h2]; exact h⟩

theorem wpAnyH_firstQ {i : Nat} {oi : Oper} {v : Value} (hi : ops[i]? = some oi) (hsel : ∀ (j : Nat) (o : Oper) cs b, ops[j]? = some o → o.op ≠ .select cs b)
    (hQ : ∀ c a w, Q (.panic c) (a.put oi.dst v) w → Q (.panic c) a w) :
    ∀ (fuel : Nat) (listed : Array Bool) (a : Act) (w : World),
      (∀ j oj, ops[j]? = some oj → j ≠ i → listed.getD j true = false → (∀ e ∈ oj.after, Region.binds md e = true → e.on ≠ i) → oi.apart ops oj = true) →
      i ∈ Region.ready md ops listed → YieldsQ P ops S oi v a → S w →
      wpAnyH P md ops Q S fuel (listed.setIfInBounds i true) (a.put oi.dst v) w → wpAnyH P md ops Q S (fuel + 1) listed a w := by
  intro fuel
  induction fuel with
  | zero =>
    intro listed a w _ hr hy hS H
    refine ⟨fun h => (by rw [h] at hr; cases hr), fun j hj => ?_⟩
    by_cases hji : j = i
    · subst hji; exact hy.wpOp hi hS ⟨hS, H⟩
    · have := ready_mono hj hji
      rw [H.1] at this
      cases this
  | succ fuel ih =>
    intro listed a w hfree hr hy hS H
    refine ⟨fun h => (by rw [h] at hr; cases hr), fun j hj => ?_⟩
    by_cases hji : j = i
    · subst hji; exact hy.wpOp hi hS ⟨hS, H⟩
    · have h1 := H.2 j (ready_mono hj hji)
      obtain ⟨hjun, oj, hoj, hall⟩ := mem_ready.1 hj
      have hnot : ∀ e ∈ oj.after, Region.binds md e = true → e.on ≠ i := fun e he hb heq => by
        have h1 := hall e he hb
        have h0 := (mem_ready.1 hr).1
        rw [heq] at h1
        rcases Nat.lt_or_ge i listed.size with h' | h'
        · simp [h'] at h0 h1; rw [h0] at h1; cases h1
        · simp [Array.getElem?_eq_none h'] at h1
      have h2 := wpOp_putQ hoj (hfree j oj hoj hji hjun hnot) (fun cs b => hsel i oi cs b hi) (fun cs b => hsel j oj cs b hoj) hQ hy h1
      have hfree' : ∀ k ok, ops[k]? = some ok → k ≠ i → (listed.setIfInBounds j true).getD k true = false →
          (∀ e ∈ ok.after, Region.binds md e = true → e.on ≠ i) → oi.apart ops ok = true := fun k ok hk hki hun hno => by
        refine hfree k ok hk hki ?_ hno
        by_cases hjk : j = k
        · subst hjk; exact hjun
        · rw [getD_set_ne true hjk] at hun; exact hun
      refine wpOp_mono (fun a' w' h3 => ⟨h3.2.1, ih (listed.setIfInBounds j true) a' w' hfree' (ready_mono hr (Ne.symm hji)) h3.1 h3.2.1 ?_⟩) h2
      rw [Array.setIfInBounds_comm _ _ hji]
      exact h3.2.2

/-- The walk over quiet steps. -/
def SeqQ (P : Program) (ds : List (Option Tmp)) (S : World → Prop) (K : Act → Prop) : List Oper → Act → Prop
  | [], a => K a
  | o :: rest, a => ∃ v, ((wantedD ds o a.tmps = true ∧ ∀ w, S w → Gives P (fun w' => w' = w) o v a.eval w) ∨ (wantedD ds o a.tmps = false ∧ v = undef)) ∧ SeqQ P ds S K rest (a.put o.dst v)

/-- A list of operations, and S shown anew behind each. -/
def wpListH (P : Program) (ops : Array Oper) (Q : Exit → Act → World → Prop) (S : World → Prop) : List Oper → Act → World → Prop
  | [], a, w => Q .normal a w
  | o :: rest, a, w => if Region.wanted o (yielded ops a.tmps) then o.wp P a w (fun a' w' => S w' ∧ wpListH P ops Q S rest a' w') Q else S w ∧ wpListH P ops Q S rest (a.put o.dst undef) w

theorem wpAnyH_chain {k : Nat} (hch : chain md ops k = true) : ∀ (m i : Nat) (a : Act) (w : World), i + m = ops.size → k ≤ i →
    wpListH P ops Q S (ops.toList.drop i) a w → wpAnyH P md ops Q S m (upto ops.size i) a w := by
  intro m
  induction m with
  | zero =>
    intro i a w hi _ h
    simp at hi; subst hi
    rw [List.drop_of_length_le (by simp)] at h
    exact ⟨ready_full, h⟩
  | succ m ih =>
    intro i a w hi hki h
    have hlt : i < ops.size := by omega
    have hd : ops.toList.drop i = ops[i] :: ops.toList.drop (i + 1) := by
      rw [List.drop_eq_getElem_cons (by simpa using hlt)]; simp
    rw [hd] at h
    have hrd : Region.ready md ops (upto ops.size i) = [i] := by
      simp only [chain, List.all_eq_true, List.mem_range] at hch
      have := hch i hlt
      simp only [Bool.or_eq_true, decide_eq_true_eq, beq_iff_eq] at this
      rcases this with h | h
      · omega
      · exact h
    have hmono : ∀ a w, (S w ∧ wpListH P ops Q S (ops.toList.drop (i + 1)) a w) → (S w ∧ wpAnyH P md ops Q S m ((upto ops.size i).setIfInBounds i true) a w) := fun a w h => by
      rw [upto_set hlt]; exact ⟨h.1, ih (i + 1) a w (by omega) (by omega) h.2⟩
    refine ⟨fun h0 => (by rw [hrd] at h0; cases h0), fun j hj => ?_⟩
    rw [hrd] at hj
    obtain rfl : j = i := by simpa using hj
    unfold wpOp
    simp only [Array.getElem?_eq_getElem hlt]
    unfold wpListH at h
    split
    · rename_i hw; rw [if_pos hw] at h; exact .inl (Oper.wp_mono hmono h)
    · rename_i hw; rw [if_neg hw] at h; exact hmono _ _ h

theorem wpAnyH_seqQ {ds : List (Option Tmp)} (hds : ops.toList.map (·.dst) = ds) {k : Nat} (hsel : noSel ops.toList = true) (hsq : seqOk ops k 0 ops.toList = true)
    (hQ : ∀ c a d v w, Q (.panic c) (a.put d v) w → Q (.panic c) a w) {n : Nat} (hn : k + n = ops.size) {w : World} (hS : S w) : ∀ (m i : Nat) (a : Act), i + m = k →
    SeqQ P ds S (fun a => wpAnyH P .any ops Q S n (upto ops.size k) a w) ((ops.toList.drop i).take m) a → wpAnyH P .any ops Q S (m + n) (upto ops.size i) a w := by
  have hns : Region.noSelect ops = true := by
    unfold Region.noSelect
    rw [← Array.all_toList, List.all_eq_true]
    exact noSel_spec hsel
  obtain ⟨_, hall⟩ := seqOk_spec k 0 _ hsq
  intro m
  induction m with
  | zero => intro i a hi h; simp at hi; subst hi; rw [Nat.zero_add]; simpa [SeqQ] using h
  | succ m ih =>
    intro i a hi h
    have hlt : i < ops.size := by omega
    have hd : ops.toList.drop i = ops[i] :: ops.toList.drop (i + 1) := by
      rw [List.drop_eq_getElem_cons (by simpa using hlt)]; simp
    rw [hd, List.take_succ_cons] at h
    obtain ⟨v, hs, hrest⟩ := h
    have hio : ops[i]? = some ops[i] := Array.getElem?_eq_getElem hlt
    obtain ⟨o, ho, hb, hr⟩ := hall i (by omega)
    obtain rfl : o = ops[i] := by
      have : ops.toList[i]? = some ops[i] := by simp [hlt]
      rw [this] at ho; cases ho; rfl
    simp only [Nat.zero_add] at hb hr
    rw [show m + 1 + n = (m + n) + 1 from by omega]
    refine wpAnyH_firstQ hio (Region.noSelect_spec hns) (fun c a w => hQ c a _ v w) (m + n) (upto ops.size i) a w ?_ ?_ (by unfold YieldsQ; rw [wantedD_eq hds]; exact hs) hS ?_
    · intro j oj hoj hji hun hno
      have hjlt : j < ops.size := (Array.getElem?_eq_some_iff.1 hoj).1
      have hij : i < j := by
        rw [upto_get true hjlt] at hun
        simp at hun; omega
      rcases hr j oj hij (by simpa using hoj) with h | h
      · obtain ⟨e, he, hb⟩ := waitsFor_iff.1 h
        exact absurd hb.2 (hno e (by simpa using he) hb.1)
      · exact h
    · rw [mem_ready]
      refine ⟨by rw [upto_get true hlt]; simp, ops[i], hio, fun e he hbd => ?_⟩
      have := allBelow_iff.1 hb e (by simpa using he) hbd
      rw [upto_get false (by omega)]
      simp [this]
    · rw [upto_set hlt]
      exact ih (i + 1) _ (by omega) hrest

/-- THE RULE: the first k operations leave the world as it is (in every world that meets S); the others wait one for the other, and S holds behind each. -/
theorem wp_region_q {id : Nat} {a : Act} {w : World} (k n : Nat) (S : World → Prop) (hm : P.follows .mixedOrders = true) (hn : k + n = ops.size)
    (hsel : noSel ops.toList = true) (hsq : seqOk ops k 0 ops.toList = true) (hch : chain .any ops k = true)
    (hS : S w.drew) {ds : List (Option Tmp)} (hds : ops.toList.map (·.dst) = ds)
    (h : ∀ (K : Act → Prop) (T : World → Prop), (∀ a, wpListH P ops (NoPanic Q) S (ops.toList.drop k) a w.drew → K a) → (∀ w, T w → S w) → SeqQ P ds T K (ops.toList.take k) a) :
    (Code.region id ops true).wp P Q a w := by
  refine wp_region_noPanic (wp_region_held (S := S) hm ?_)
  have h1 := wpAnyH_seqQ (P := P) (S := S) (Q := NoPanic Q) hds hsel hsq (fun _ _ _ _ _ h => h) hn hS k 0 a (by omega) (by
    rw [List.drop_zero]
    exact h _ S (fun a ha => wpAnyH_chain hch n k a w.drew hn (Nat.le_refl _) ha) fun _ h => h)
  rw [hn] at h1
  have h3 : upto ops.size 0 = Array.replicate ops.size false := by
    apply Array.ext
    · simp [upto]
    · intro j _ _; simp [upto]
  rw [h3] at h1
  exact h1

variable {K : Act → Prop} {T : World → Prop} {ds : List (Option Tmp)} {o : Oper} {rest : List Oper} {a : Act} {v : Value}
theorem SeqQ.pure (hw : wantedD ds o a.tmps = true) (h : ∀ w, T w → (execOp a.eval o).run P w = .ok (.value v) w)
    (hr : SeqQ P ds T K rest (a.put o.dst v)) : SeqQ P ds T K (o :: rest) a :=
  ⟨v, .inl ⟨hw, fun w hS => by unfold Gives; rw [h w hS]; exact ⟨rfl, rfl⟩⟩, hr⟩
theorem SeqQ.call {f : FuncId} {args : Array Value} {c : Call} (_hop : o.op = .call c) (hw : wantedD ds o a.tmps = true)
    (h : ∀ w, T w → (execOp a.eval o).run P w = .ok (.enter f args) w) (hc : ∀ w, T w → Calls P f args w fun e w' => e = .returned v ∧ w' = w)
    (hr : SeqQ P ds T K rest (a.put o.dst v)) : SeqQ P ds T K (o :: rest) a :=
  ⟨v, .inl ⟨hw, fun w hS => by unfold Gives; rw [h w hS]; exact hc w hS⟩, hr⟩
theorem SeqQ.skip (hw : wantedD ds o a.tmps = false) (hr : SeqQ P ds T K rest (a.put o.dst undef)) : SeqQ P ds T K (o :: rest) a :=
  ⟨undef, .inr ⟨hw, rfl⟩, hr⟩
theorem SeqQ.split {p : Bool} {g : Nat} {want : Bool} (_hg : o.guard = some (g, want)) (_hy : (match (ds[g]?.join).bind (a.tmps[·]?) with | some (.bool b) => some b | _ => none) = some p)
    (h1 : p = true → SeqQ P ds T K (o :: rest) a) (h2 : p = false → SeqQ P ds T K (o :: rest) a) : SeqQ P ds T K (o :: rest) a := by
  cases p
  · exact h2 rfl
  · exact h1 rfl
theorem SeqQ.nil (h : K a) : SeqQ P ds T K [] a := h
theorem wpListH.nil {w : World} (h : Q .normal a w) : wpListH P ops (NoPanic Q) S [] a w := h
theorem wpListH.cons {w : World} (hg : o.guard = none) (h : ∀ K : Act → World → Prop, (∀ a w, S w → (S w → wpListH P ops Q S rest a w) → K a w) → o.wp P a w K Q) : wpListH P ops Q S (o :: rest) a w := by
  unfold wpListH
  rw [if_pos (by simp [Region.wanted, hg])]
  exact h _ fun a w h1 h2 => ⟨h1, h2 h1⟩
end

theorem ret_of {P : Program} {fn : Func} {R : Ending → World → Prop} {a : Act} {w : World} {v : Value} (hr : (results fn a.tmps).run P w = .ok v w)
    (hR : a.defers = [] ∧ R (.returned v) w) : bodyPost P fn R .ret a w := bodyPost_ret hr hR.1 hR.2
theorem ret_bool {a b : Bool} (h : a = b) : Ending.returned (.bool a) = .returned (.bool b) := by rw [h]
theorem ret_int {k : IntKind} {a b : Int} (h : a = b) : Ending.returned (.int k a) = .returned (.int k b) := by rw [h]

/-! ### The usual condition: memory that was there is as it was, and these cells of the call's own hold these values -/
def cellsAre (L : List (Addr × Value)) (w : World) : Prop := ∀ p ∈ L, w.cell? p.1 = some p.2 ∧ w.frozen? p.1 = false
def Keeps (B : Nat) (L : List (Addr × Value)) (w0 w : World) : Prop :=
  Below w0.heap.size w0 w ∧ B ≤ w.heap.size ∧ (∀ p ∈ L, p.1.block < B) ∧ cellsAre L w

theorem cellsAre_nil (w : World) : cellsAre [] w ↔ True := by simp [cellsAre]
theorem cellsAre_cons (p : Addr × Value) (L : List (Addr × Value)) (w : World) : cellsAre (p :: L) w ↔ (w.cell? p.1 = some p.2 ∧ w.frozen? p.1 = false) ∧ cellsAre L w := by
  simp [cellsAre]

theorem Keeps.below {B : Nat} {L : List (Addr × Value)} {w0 w w' : World} (h : Keeps B L w0 w) (hb : Below w.heap.size w w') : Keeps B L w0 w' := by
  obtain ⟨h1, h2, h3, h4⟩ := h
  refine ⟨h1.trans (hb.mono h1.size), Nat.le_trans h2 hb.size, h3, fun p hp => ?_⟩
  have := h3 p hp
  rw [hb.cell (p := p.1) (by omega), hb.frozen (p := p.1) (by omega)]
  exact h4 p hp
theorem Keeps.setCell {B : Nat} {L : List (Addr × Value)} {w0 w : World} (h : Keeps B L w0 w) {a : Addr} (ha : B ≤ a.block) (hB : w0.heap.size ≤ a.block) (v : Value) : Keeps B L w0 (w.setCell a v) := by
  obtain ⟨h1, h2, h3, h4⟩ := h
  refine ⟨h1.setCell hB v, by simpa using h2, h3, fun p hp => ?_⟩
  have := h3 p hp
  have hne : a.block ≠ p.1.block := by omega
  rw [World.cell?_setCell_far _ _ _ _ hne, World.frozen?_setCell]
  exact h4 p hp
theorem Keeps.drew {B : Nat} {L : List (Addr × Value)} {w0 w : World} (h : Keeps B L w0 w) : Keeps B L w0 w.drew := h.below (Below.refl _ _).drew
theorem Keeps.alloc {B : Nat} {L : List (Addr × Value)} {w0 w : World} (h : Keeps B L w0 w) (o : Obj) : Keeps B L w0 (w.alloc o) := h.below ((Below.refl _ _).alloc (Nat.le_refl _) o)
theorem Keeps.more {B B' : Nat} {L L2 : List (Addr × Value)} {w0 w : World} (h : Keeps B L w0 w) (hB : B ≤ B') (hs : B' ≤ w.heap.size) (hb : ∀ p ∈ L2, p.1.block < B') (hc : cellsAre L2 w) : Keeps B' (L2 ++ L) w0 w := by
  obtain ⟨h1, h2, h3, h4⟩ := h
  refine ⟨h1, hs, fun p hp => ?_, fun p hp => ?_⟩
  · rcases List.mem_append.1 hp with hp | hp
    · exact hb p hp
    · have := h3 p hp; omega
  · rcases List.mem_append.1 hp with hp | hp
    · exact hc p hp
    · exact h4 p hp
/-- Cells that are no longer of interest. -/
theorem Keeps.sub {B B' : Nat} {L L' : List (Addr × Value)} {w0 w : World} (h : Keeps B L w0 w) (hB : B' ≤ B) (hL : ∀ p ∈ L', p ∈ L ∧ p.1.block < B') : Keeps B' L' w0 w :=
  ⟨h.1, Nat.le_trans hB h.2.1, fun p hp => (hL p hp).2, fun p hp => h.2.2.2 p (hL p hp).1⟩
/-- The world behind a letter of which S is known. -/
theorem abs_at {Q : Exit → Act → World → Prop} {e : Exit} {a : Act} {w : World} (S : World → Prop) (hS : S w) (h : ∀ w', S w' → Q e a w') : Q e a w := h w hS
theorem abs_code {P : Program} {c : Code} {Q : Exit → Act → World → Prop} {a : Act} {w : World} (S : World → Prop) (hS : S w) (h : ∀ w', S w' → c.wp P Q a w') : c.wp P Q a w := h w hS
theorem Keeps.to_below {B : Nat} {L : List (Addr × Value)} {w0 w : World} (h : Keeps B L w0 w) : Below w0.heap.size w0 w := h.1
end Go.Sq

set_option linter.unusedSimpArgs false
set_option linter.unusedVariables false
set_option maxRecDepth 100000
namespace Go.Wd
open Go Go.RowKit

/-- Block g is these cells, all of it. -/
def Blk (w : World) (g : Nat) (t : TypeId) (cs : List Value) : Prop := w.heap[g]? = some (.cells cs.toArray t (0, 0))

section
variable {w w' : World} {g : Nat} {t : TypeId} {cs : List Value}
theorem Blk.lt (h : Blk w g t cs) : g < w.heap.size := by
  rcases Nat.lt_or_ge g w.heap.size with hlt | hge
  · exact hlt
  · unfold Blk at h; rw [Array.getElem?_eq_none hge] at h; cases h
theorem Blk.of_eq {cs' : List Value} (h : Blk w g t cs) (e : cs = cs') : Blk w g t cs' := e ▸ h
theorem Blk.cell (h : Blk w g t cs) (i : Nat) : w.cell? ⟨g, i, none⟩ = cs[i]? := by
  unfold Blk at h
  simp [World.cell?, h]
theorem Blk.frozen (h : Blk w g t cs) (i : Nat) : w.frozen? ⟨g, i, none⟩ = false := by
  unfold Blk at h
  simp [World.frozen?, h]
theorem Blk.new (w : World) (t : TypeId) (cs : List Value) : Blk (w.alloc (.cells cs.toArray t)) w.heap.size t cs := heap_alloc_new w _
theorem Blk.newAt (w : World) (t : TypeId) (cs : List Value) {H : Nat} (hH : w.heap.size = H) : Blk (w.alloc (.cells cs.toArray t)) H t cs := hH ▸ Blk.new w t cs
theorem Blk.new1 (w : World) (o : Obj) (t : TypeId) (cs : List Value) : Blk ((w.alloc o).alloc (.cells cs.toArray t)) (w.heap.size + 1) t cs := by
  have := Blk.new (w.alloc o) t cs
  simpa using this
theorem Blk.drew (h : Blk w g t cs) : Blk w.drew g t cs := h
theorem Blk.drewN (h : Blk w g t cs) (n : Nat) : Blk (w.drewN n) g t cs := h
theorem Blk.alloc (h : Blk w g t cs) (o : Obj) : Blk (w.alloc o) g t cs := (Below.heap_alloc w o g h.lt).trans h
theorem Blk.set (h : Blk w g t cs) (i : Nat) (u : Value) : Blk (w.setCell ⟨g, i, none⟩ u) g t (cs.set i u) := by
  unfold Blk at h ⊢
  simp [World.setCell, Array.getElem?_modify, h]
theorem Blk.far (h : Blk w g t cs) {p : Addr} (hp : g ≠ p.block) (u : Value) : Blk (w.setCell p u) g t cs := (Below.heap_setCell w p u g hp).trans h
theorem Blk.below {B : Nat} (h : Blk w g t cs) (hb : Below B w w') (hg : g < B) : Blk w' g t cs := (hb.block g hg).trans h
theorem Blk.keep (h : Blk w g t cs) (hb : Below w.heap.size w w') : Blk w' g t cs := h.below hb h.lt
theorem Blk.grown {row : Option Nat} (h : Blk w g t cs) (hb : w.grownBy w' row) (hg : some g ≠ row) : Blk w' g t cs := (hb.block g h.lt hg).trans h
end

theorem only_drew {a w : World} {row : Option Nat} (h : a.grownBy w row) : a.grownBy w.drew row := ⟨h.os, h.tape, h.output, h.size, h.block⟩
theorem only_alloc {a w : World} {row : Option Nat} (h : a.grownBy w row) (o : Obj) : a.grownBy (w.alloc o) row :=
  ⟨h.os, h.tape, h.output, Nat.le_trans h.size (by simp), fun i hi hne => (Below.heap_alloc w o i (Nat.lt_of_lt_of_le hi h.size)).trans (h.block i hi hne)⟩
theorem only_setCell {a w : World} {row : Option Nat} (h : a.grownBy w row) {p : Addr} (hp : some p.block = row ∨ a.heap.size ≤ p.block) (u : Value) : a.grownBy (w.setCell p u) row :=
  ⟨h.os, h.tape, h.output, by simpa [World.setCell] using h.size, fun i hi hne => (Below.heap_setCell w p u i (by
    rintro rfl
    rcases hp with hp | hp
    · exact hne hp
    · omega)).trans (h.block i hi hne)⟩
theorem only_of_below {a w : World} (h : Below a.heap.size a w) (row : Option Nat) : a.grownBy w row := ⟨h.os, h.tape, h.output, h.size, fun i hi _ => h.block i hi⟩
theorem below_only {B : Nat} {w w1 w2 : World} {m : Nat} (h : Below B w w1) (hg : w1.grownBy w2 (some m)) (hB : B ≤ m) (hw : B ≤ w1.heap.size) : Below B w w2 :=
  ⟨hg.os.trans h.os, hg.tape.trans h.tape, hg.output.trans h.output, Nat.le_trans h.size hg.size, fun k hk => (hg.block k (by omega) (by simp; omega)).trans (h.block k hk)⟩
theorem below_trans {B : Nat} {w w1 w2 : World} (h : Below B w w1) (hg : Below w1.heap.size w1 w2) (hw : B ≤ w1.heap.size) : Below B w w2 :=
  ⟨hg.os.trans h.os, hg.tape.trans h.tape, hg.output.trans h.output, Nat.le_trans h.size hg.size, fun k hk => (hg.block k (by omega)).trans (h.block k hk)⟩

theorem only_trans {a b c : World} {row : Option Nat} (h : a.grownBy b row) (h2 : b.grownBy c row) : a.grownBy c row :=
  ⟨h2.os.trans h.os, h2.tape.trans h.tape, h2.output.trans h.output, Nat.le_trans h.size h2.size, fun k hk hne => (h2.block k (Nat.lt_of_lt_of_le hk h.size) hne).trans (h.block k hk hne)⟩

/-- ONE ELEMENT APPENDED, laid down in a block of its own just ahead. -/
theorem append_one {P : Program} {W : World} {base : Nat} {e t : TypeId} {z : Value} {size bytes : Nat} (ty : TypeId) (ht : P.underlying t = some (.slice e))
    (hinfo : (P.info? e).map (fun i => (i.zero, i.size, i.bytes)) = some (some z, size, bytes)) (hzs : z.cells.size = size) (hsz : 0 < size)
    {v : Value} {n : Nat} {xs : List Value} (hown : W.ownsRow base e size v n xs) (news : List Value) (hl : news.length = size) (h1 : ∀ u ∈ news, u.oneCell' = true)
    (h63 : n + 1 ≤ maxLen) (hbytes : (n + 1) * bytes ≤ 140737488355328) (hbase : base ≤ W.heap.size) {H : Nat} (hH : W.heap.size = H) :
    ∃ v' w', (Builtin.append_ #[t, t] ty #[v, .slice (some ⟨H, 0, none⟩) 1 1]).run P (W.alloc (.cells news.toArray e)) = .ok v' w' ∧ w'.ownsRow base e size v' (n + 1) (xs ++ news) ∧
      W.grownBy w' v.ownBlock ∧ (v'.ownBlock = v.ownBlock ∨ v'.ownBlock = some (H + 1)) := by
  subst hH
  obtain ⟨i, hi, hz, h2, h3⟩ := info_parts hinfo
  obtain ⟨v', w', hr, ho, hg, _, hb⟩ := run_append_own_at (P := P) (W.alloc (.cells news.toArray e)) base t ty e i z size bytes ht hi hz h2 h3 hzs hsz v n xs (hown.alloc _) ⟨W.heap.size, 0, none⟩ 1 1 news (by omega)
    (fun j u hu => by
      have hc : (W.alloc (.cells news.toArray e)).cell? ⟨W.heap.size, j, none⟩ = some u := by
        rw [cell_of_row _ _ _ news.toArray e (0, 0) (heap_alloc_new W _)]
        simpa using hu
      have hadd : (⟨W.heap.size, 0, none⟩ : Addr).add j = ⟨W.heap.size, j, none⟩ := by unfold Addr.add; split <;> simp_all
      rw [hadd]; exact hc) h1 h63 hbytes (by simp; omega)
  refine ⟨v', w', hr, ho, only_trans (World.grownBy_alloc W _ _) hg, ?_⟩
  simpa using hb
/-- Nothing appended. -/
theorem append_nil {P : Program} (w : World) (base : Nat) (t ty e : TypeId) (i : TypeInfo) (size : Nat) (ht : P.underlying t = some (.slice e)) (hi : P.info? e = some i)
    (v : Value) (n : Nat) (xs : List Value) (hown : w.ownsRow base e size v n xs) (c : Nat) : (Builtin.append_ #[t, t] ty #[v, .slice none 0 c]).run P w = .ok v w := by
  rcases hown.2 with ⟨rfl, rfl⟩ | ⟨g, cap, cur, rfl, _, _, hnc, _⟩
  · simp [Builtin.append_, run_underlying ht, sizeOf, typeInfo, hi, Builtin.lenOf, Builtin.firstCells]
  · simp [Builtin.append_, run_underlying ht, sizeOf, typeInfo, hi, Builtin.lenOf, Builtin.firstCells, hnc, storeCells]

/-- MANY ELEMENTS APPENDED, out of a slice that may be nil. -/
theorem append_all {P : Program} {W : World} {base : Nat} {e t : TypeId} {z : Value} {size bytes : Nat} (ty : TypeId) (ht : P.underlying t = some (.slice e))
    (hinfo : (P.info? e).map (fun i => (i.zero, i.size, i.bytes)) = some (some z, size, bytes)) (hzs : z.cells.size = size) (hsz : 0 < size)
    {v : Value} {n : Nat} {xs : List Value} (hown : W.ownsRow base e size v n xs) (A : Option Addr) (m c : Nat) (news : List Value) (hl : news.length = m * size)
    (hcells : 0 < m → ∃ ad, A = some ad ∧ ∀ j u, news[j]? = some u → W.cell? (ad.add j) = some u) (h1 : ∀ u ∈ news, u.oneCell' = true)
    (h63 : n + m ≤ maxLen) (hbytes : (n + m) * bytes ≤ 140737488355328) (hbase : base ≤ W.heap.size) :
    ∃ v' w', (Builtin.append_ #[t, t] ty #[v, .slice A m c]).run P W = .ok v' w' ∧ w'.ownsRow base e size v' (n + m) (xs ++ news) ∧
      W.grownBy w' v.ownBlock ∧ (v'.ownBlock = v.ownBlock ∨ v'.ownBlock = some W.heap.size) := by
  obtain ⟨i, hi, hz, h2, h3⟩ := info_parts hinfo
  rcases A with _ | ad
  · have hm : m = 0 := by
      rcases Nat.eq_zero_or_pos m with h0 | h0
      · exact h0
      · obtain ⟨ad, h, _⟩ := hcells h0; cases h
    subst hm
    have hn : news = [] := List.eq_nil_of_length_eq_zero (by simpa using hl)
    subst hn
    exact ⟨v, W, append_nil W base t ty e i size ht hi v n xs hown c, by simpa using hown, World.grownBy.refl W _, .inl rfl⟩
  · obtain ⟨v', w', hr, ho, hg, _, hb⟩ := run_append_own_at (P := P) W base t ty e i z size bytes ht hi hz h2 h3 hzs hsz v n xs hown ad m c news hl (fun j u hu => by
      rcases Nat.eq_zero_or_pos m with h0 | h0
      · subst h0
        have hn : news = [] := List.eq_nil_of_length_eq_zero (by simpa using hl)
        subst hn
        simp at hu
      · obtain ⟨ad', h, hc⟩ := hcells h0
        cases h
        exact hc j u hu) h1 h63 hbytes hbase
    exact ⟨v', w', hr, ho, hg, hb⟩

/-- 'append' in a plain region, by its run. -/
theorem wpList_app {P : Program} {w w' : World} {v y v' : Value} {s x : Operand} {t : TypeId} {ops : Array Oper} {rest : List Oper} {o : Oper} {a : Act} {Q : Exit → Act → World → Prop} (hgd : o.guard = none)
    (ho : o.op = .call { callee := .builtin .append, args := #[s, x], argTypes := #[t, t] }) (hs : a.eval s = v) (hx : a.eval x = y)
    (hrun : (Builtin.append_ #[t, t] o.type #[v, y]).run P w = .ok v' w') (h : wpList P ops Q rest (a.put o.dst v') w') : wpList P ops Q (o :: rest) a w := by
  refine wpList_plain hgd fun _ hK => ?_
  unfold Oper.wp execOp
  simp only [ho, resolve, invoke, builtin, Sem.run_bind, Sem.run_pure, Result.andThen_ok, List.map_toArray, List.map_cons, List.map_nil, hs, hx, hrun]
  exact hK _ _ h
/-- What was there stays there, in the old row too. -/
theorem append_keeps {P : Program} {w : World} {base : Nat} {t ty e : TypeId} {i : TypeInfo} {z : Value} (ht : P.underlying t = some (.slice e)) (hi : P.info? e = some i) (hz : i.zero = some z)
    {g n cap : Nat} {xs : List Value} (hown : w.ownsRow base e i.size (.slice (some ⟨g, 0, none⟩) n cap) n xs)
    {a : Addr} {m c : Nat} {news : List Value} (hl : news.length = m * i.size) (hnews : ∀ j u, news[j]? = some u → w.cell? (a.add j) = some u) (h1 : ∀ u ∈ news, u.oneCell' = true) (hm : 0 < m)
    (h63 : n + m ≤ 9223372036854775807) (hbytes : (n + m) * i.bytes ≤ 140737488355328)
    {v' : Value} {w' : World} (hrun : (Builtin.append_ #[t, t] ty #[.slice (some ⟨g, 0, none⟩) n cap, .slice (some a) m c]).run P w = .ok v' w') (ho : w'.ownsRow base e i.size v' (n + m) (xs ++ news)) :
    ∀ j u, xs[j]? = some u → w'.cell? ⟨g, j, none⟩ = some u := by
  intro j u hu
  have hglt := (hown.lt g rfl).2
  have hadd : (⟨g, 0, none⟩ : Addr).add j = ⟨g, j, none⟩ := by unfold Addr.add; split <;> simp_all
  have hold := hown.cells (g := g) rfl j u hu
  rw [hadd] at hold
  rcases hown.2 with ⟨h, _⟩ | ⟨g', cap', cur, hv, _, hg, hnc, hcm, hcs, _⟩
  · cases h
  · cases hv
    by_cases hroom : n + m ≤ cap
    · have hfit : n * i.size + news.length ≤ cur.size := by rw [hl, hcs, ← Nat.add_mul]; exact Nat.mul_le_mul_right _ hroom
      have hr := run_append_room (P := P) w t ty e i ht hi g n cap cur hg a m c news hl hnews h1 hroom hfit
      rw [hr] at hrun
      cases hrun
      have hj : j < xs.length := (List.getElem?_eq_some_iff.1 hu).1
      have hx1 := hown.1
      rw [ho.cellAt j (by rw [Nat.add_mul]; omega), List.getElem?_append_left hj, hu]
    · have hr := run_append_grow (P := P) w t ty e i z ht hi hz ⟨g, 0, none⟩ n cap xs hown.1 (hown.cells (g := g) rfl) a m c news hl hnews (by omega) (by omega) (growslice_fits (by omega) hbytes)
      rw [hr] at hrun
      cases hrun
      exact (World.cell?_alloc_lt w.drew _ ⟨g, j, none⟩ hglt).trans hold

/-- 'append' at a step, by its run. -/
theorem oper_app {P : Program} {w w' : World} {v y v' : Value} {s x : Operand} {t : TypeId} {o : Oper} {a : Act} {K : Act → World → Prop} {Q : Exit → Act → World → Prop}
    (ho : o.op = .call { callee := .builtin .append, args := #[s, x], argTypes := #[t, t] }) (hs : a.eval s = v) (hx : a.eval x = y)
    (hrun : (Builtin.append_ #[t, t] o.type #[v, y]).run P w = .ok v' w') (h : K (a.put o.dst v') w') : o.wp P a w K Q := by
  unfold Oper.wp execOp
  simp only [ho, resolve, invoke, builtin, Sem.run_bind, Sem.run_pure, Result.andThen_ok, List.map_toArray, List.map_cons, List.map_nil, hs, hx, hrun]
  exact h
theorem ownsRow_drew {w : World} {base : Nat} {e : TypeId} {size : Nat} {v : Value} {n : Nat} {xs : List Value} (h : w.ownsRow base e size v n xs) : w.drew.ownsRow base e size v n xs := h
theorem below_own {B : Nat} {w w1 w2 : World} {v : Value} {e : TypeId} {size n : Nat} {xs : List Value} (h : Below B w w1) (hg : w1.grownBy w2 v.ownBlock) (ho : w1.ownsRow B e size v n xs) (hw : B ≤ w1.heap.size) : Below B w w2 :=
  ⟨hg.os.trans h.os, hg.tape.trans h.tape, hg.output.trans h.output, Nat.le_trans h.size hg.size, fun k hk => (hg.block k (by omega) (fun e => by have := (ho.lt k e.symm).1; omega)).trans (h.block k hk)⟩
end Go.Wd

set_option linter.unusedSimpArgs false
set_option linter.unusedVariables false
set_option maxRecDepth 100000
namespace Go.Sq
open Go

section
variable {P : Program} {ops : Array Oper} {Q : Exit → Act → World → Prop} {S : World → Prop}

def nth : List Oper → Nat → Oper
  | o :: _, 0 => o
  | _ :: l, n + 1 => nth l n
  | [], _ => default

/-- The operations of a schedule, with what is said of each: true: it is quiet. -/
def pick (l : List Oper) : List (Nat × Bool) → List (Bool × Oper)
  | [] => []
  | p :: r => (p.2, nth l p.1) :: pick l r

theorem nth_get : ∀ (l : List Oper) (i : Nat), i < l.length → l[i]? = some (nth l i)
  | o :: l, 0, _ => by simp [nth]
  | o :: l, i + 1, h => by simpa [nth] using nth_get l i (by simpa using h)
  | [], i, h => by simp at h

def depsIn (listed : Array Bool) : List Edge → Bool
  | [] => true
  | e :: l => (!binds' e || listed.getD e.on false) && depsIn listed l

def othersOk (ops : Array Oper) (o : Oper) (i : Nat) (listed : Array Bool) : Nat → List Oper → Bool
  | _, [] => true
  | j, oj :: l => (Nat.beq j i || listed.getD j true || waitsFor i oj.after.toList || o.apart ops oj) && othersOk ops o i listed (j + 1) l

def quietOk (ops : Array Oper) (i : Nat) (listed : Array Bool) : Bool :=
  Nat.blt i ops.size && !(listed.getD i true) && depsIn listed (nth ops.toList i).after.toList && othersOk ops (nth ops.toList i) i listed 0 ops.toList

def okP (ops : Array Oper) : List (Nat × Bool) → Array Bool → Bool
  | [], l => (Region.ready .any ops l).isEmpty
  | (i, true) :: r, l => quietOk ops i l && okP ops r (l.setIfInBounds i true)
  | (i, false) :: r, l => Nat.blt i ops.size && (match Region.ready .any ops l with | [j] => Nat.beq j i | _ => false) && okP ops r (l.setIfInBounds i true)

theorem depsIn_spec {listed : Array Bool} : ∀ {l : List Edge}, depsIn listed l = true → ∀ e ∈ l, Region.binds .any e = true → listed.getD e.on false = true
  | [], _, e, he, _ => by cases he
  | x :: l, h, e, he, hb => by
    simp only [depsIn, Bool.and_eq_true, Bool.or_eq_true, Bool.not_eq_true'] at h
    rcases List.mem_cons.1 he with rfl | he
    · rcases h.1 with h1 | h1
      · rw [binds'_eq, hb] at h1; cases h1
      · exact h1
    · exact depsIn_spec h.2 e he hb

theorem othersOk_spec {o : Oper} {i : Nat} {listed : Array Bool} : ∀ {l : List Oper} {k : Nat}, othersOk ops o i listed k l = true →
    ∀ m oj, l[m]? = some oj → k + m ≠ i → listed.getD (k + m) true = false → waitsFor i oj.after.toList = true ∨ o.apart ops oj = true
  | [], k, _, m, oj, hm, _, _ => by simp at hm
  | x :: l, k, h, m, oj, hm, hne, hun => by
    simp only [othersOk, Bool.and_eq_true, Bool.or_eq_true] at h
    cases m with
    | zero =>
      simp at hm hne hun
      subst hm
      rcases h.1 with ((h1 | h1) | h1) | h1
      · exact absurd (Nat.eq_of_beq_eq_true h1) hne
      · simp at h1; rw [hun] at h1; cases h1
      · exact .inl h1
      · exact .inr h1
    | succ m =>
      refine othersOk_spec h.2 m oj (by simpa using hm) ?_ ?_
      · intro e; exact hne (by omega)
      · rw [show k + 1 + m = k + (m + 1) from by omega]; exact hun

/-- The walk by a schedule. -/
def SeqP (P : Program) (ds : List (Option Tmp)) (K : Act → World → Prop) (R : Exit → Act → World → Prop) (S : World → Prop) : List (Bool × Oper) → Act → World → Prop
  | [], a, w => K a w
  | (true, o) :: r, a, w => ∃ v, ((wantedD ds o a.tmps = true ∧ ∀ w, S w → Gives P (fun w' => w' = w) o v a.eval w) ∨ (wantedD ds o a.tmps = false ∧ v = undef)) ∧ SeqP P ds K R S r (a.put o.dst v) w
  | (false, o) :: r, a, w => if wantedD ds o a.tmps then o.wp P a w (fun a' w' => S w' ∧ SeqP P ds K R S r a' w') R else S w ∧ SeqP P ds K R S r (a.put o.dst undef) w

theorem wpAnyH_P {ds : List (Option Tmp)} (hds : ops.toList.map (·.dst) = ds) (hsel : noSel ops.toList = true) (hQ : ∀ c a d v w, Q (.panic c) (a.put d v) w → Q (.panic c) a w) :
    ∀ (perm : List (Nat × Bool)) (listed : Array Bool) (a : Act) (w : World), okP ops perm listed = true → S w → SeqP P ds (Q .normal) Q S (pick ops.toList perm) a w → wpAnyH P .any ops Q S perm.length listed a w := by
  have hns : Region.noSelect ops = true := by
    unfold Region.noSelect
    rw [← Array.all_toList, List.all_eq_true]
    exact noSel_spec hsel
  intro perm
  induction perm with
  | nil =>
    intro listed a w hok hS h
    simp only [okP, List.isEmpty_iff] at hok
    exact ⟨hok, h⟩
  | cons p r ih =>
    intro listed a w hok hS h
    obtain ⟨i, q⟩ := p
    cases q with
    | true =>
      simp only [okP, quietOk, Bool.and_eq_true, Bool.not_eq_true'] at hok
      obtain ⟨⟨⟨⟨hlt, hun⟩, hdep⟩, hoth⟩, hrest⟩ := hok
      have hlt : i < ops.size := Nat.le_of_ble_eq_true hlt
      have hio : ops[i]? = some (nth ops.toList i) := by
        have := nth_get ops.toList i (by simpa using hlt)
        simpa using this
      obtain ⟨v, hs, hrest2⟩ := h
      simp only [List.length_cons]
      refine wpAnyH_firstQ hio (Region.noSelect_spec hns) (fun c a w => hQ c a _ v w) r.length listed a w ?_ ?_ (by unfold YieldsQ; rw [wantedD_eq hds]; exact hs) hS ?_
      · intro j oj hoj hji hunj hno
        have hl := othersOk_spec hoth j oj (by simpa using hoj) (by omega) (by simpa using hunj)
        rcases hl with h1 | h1
        · obtain ⟨e, he, hb⟩ := waitsFor_iff.1 h1
          exact absurd hb.2 (hno e (by simpa using he) hb.1)
        · exact h1
      · rw [mem_ready]
        exact ⟨hun, _, hio, fun e he hb => depsIn_spec hdep e (by simpa using he) hb⟩
      · exact ih _ _ _ hrest hS hrest2
    | false =>
      simp only [okP, Bool.and_eq_true] at hok
      obtain ⟨⟨hlt, hrd⟩, hrest⟩ := hok
      have hlt : i < ops.size := Nat.le_of_ble_eq_true hlt
      have hio : ops[i]? = some (nth ops.toList i) := by
        have := nth_get ops.toList i (by simpa using hlt)
        simpa using this
      have hrd2 : Region.ready .any ops listed = [i] := by
        revert hrd
        cases hr : Region.ready .any ops listed with
        | nil => intro h; cases h
        | cons x l =>
          cases l with
          | nil => intro h; simp at h; rw [h]
          | cons y l => intro h; cases h
      simp only [pick, SeqP] at h
      refine ⟨fun h0 => (by rw [hrd2] at h0; cases h0), fun j hj => ?_⟩
      rw [hrd2] at hj
      obtain rfl : j = i := by simpa using hj
      unfold wpOp
      simp only [hio]
      rw [wantedD_eq hds]
      split
      · rename_i hw
        rw [if_pos hw] at h
        exact .inl (Oper.wp_mono (fun a w h => ⟨h.1, ih _ _ _ hrest h.1 h.2⟩) h)
      · rename_i hw
        rw [if_neg hw] at h
        exact ⟨h.1, ih _ _ _ hrest h.1 h.2⟩

/-- THE RULE. -/
theorem wp_region_p {id : Nat} {a : Act} {w : World} (perm : List (Nat × Bool)) (S : World → Prop) (hm : P.follows .mixedOrders = true) (hlen : perm.length = ops.size)
    (hsel : noSel ops.toList = true) (hok : okP ops perm (upto ops.size 0) = true) (hS : S w.drew) {ds : List (Option Tmp)} (hds : ops.toList.map (·.dst) = ds)
    (h : ∀ (K : Act → World → Prop) (R : Exit → Act → World → Prop) (T : World → Prop), (∀ a w, T w → Q .normal a w → K a w) → (∀ w, T w → S w) → (∀ w, S w → T w) → SeqP P ds K R T (pick ops.toList perm) a w.drew) :
    (Code.region id ops true).wp P Q a w := by
  refine wp_region_noPanic (wp_region_held (S := S) hm ?_)
  have h1 := wpAnyH_P (P := P) (S := S) (Q := NoPanic Q) hds hsel (fun _ _ _ _ _ h => h) perm (upto ops.size 0) a w.drew hok hS (h _ _ S (fun _ _ _ h => h) (fun _ h => h) (fun _ h => h))
  rw [hlen] at h1
  have h3 : upto ops.size 0 = Array.replicate ops.size false := by
    apply Array.ext
    · simp [upto]
    · intro j _ _; simp [upto]
  rw [h3] at h1
  exact h1

variable {K : Act → World → Prop} {R : Exit → Act → World → Prop} {T : World → Prop} {ds : List (Option Tmp)} {o : Oper} {r : List (Bool × Oper)} {a : Act} {w : World} {v : Value}
theorem SeqP.pure (hw : wantedD ds o a.tmps = true) (h : ∀ w, T w → (execOp a.eval o).run P w = .ok (.value v) w)
    (hr : SeqP P ds K R T r (a.put o.dst v) w) : SeqP P ds K R T ((true, o) :: r) a w :=
  ⟨v, .inl ⟨hw, fun w hS => by unfold Gives; rw [h w hS]; exact ⟨rfl, rfl⟩⟩, hr⟩
theorem SeqP.call {f : FuncId} {args : Array Value} {c : Call} (_hop : o.op = .call c) (hw : wantedD ds o a.tmps = true)
    (h : ∀ w, T w → (execOp a.eval o).run P w = .ok (.enter f args) w) (hc : ∀ w, T w → Calls P f args w fun e w' => e = .returned v ∧ w' = w)
    (hr : SeqP P ds K R T r (a.put o.dst v) w) : SeqP P ds K R T ((true, o) :: r) a w :=
  ⟨v, .inl ⟨hw, fun w hS => by unfold Gives; rw [h w hS]; exact hc w hS⟩, hr⟩
theorem SeqP.skip (hw : wantedD ds o a.tmps = false) (hr : SeqP P ds K R T r (a.put o.dst undef) w) : SeqP P ds K R T ((true, o) :: r) a w :=
  ⟨undef, .inr ⟨hw, rfl⟩, hr⟩
theorem SeqP.skip_eff (hw : wantedD ds o a.tmps = false) (hS : T w) (hr : SeqP P ds K R T r (a.put o.dst undef) w) : SeqP P ds K R T ((false, o) :: r) a w := by
  unfold SeqP
  rw [if_neg (by rw [hw]; simp)]
  exact ⟨hS, hr⟩
theorem SeqP.split {b : Bool} {p : Bool} {g : Nat} {want : Bool} (_hg : o.guard = some (g, want)) (_hy : (match (ds[g]?.join).bind (a.tmps[·]?) with | some (.bool b) => some b | _ => none) = some p)
    (h1 : p = true → SeqP P ds K R T ((b, o) :: r) a w) (h2 : p = false → SeqP P ds K R T ((b, o) :: r) a w) : SeqP P ds K R T ((b, o) :: r) a w := by
  cases p
  · exact h2 rfl
  · exact h1 rfl
theorem SeqP.eff (hw : wantedD ds o a.tmps = true) (h : ∀ K' : Act → World → Prop, (∀ a' w', T w' → SeqP P ds K R T r a' w' → K' a' w') → o.wp P a w K' R) : SeqP P ds K R T ((false, o) :: r) a w := by
  unfold SeqP
  rw [if_pos hw]
  exact h _ fun a' w' h1 h2 => ⟨h1, h2⟩
theorem SeqP.aggbin {op : BinOp} {t : TypeId} {x y : Operand} {xs ys : Array Value} (hop : o.op = .binOp op t x y t) (hm : P.eqGuardType P.depth t = false) (hw : wantedD ds o a.tmps = true)
    (hx : a.eval x = .agg xs) (hy : a.eval y = .agg ys) (hrun : ∀ w, (binOp op t (.agg xs) (.agg ys)).run P w = .ok v w) (hr : SeqP P ds K R T r (a.put o.dst v) w) : SeqP P ds K R T ((true, o) :: r) a w := by
  refine SeqP.pure hw (fun w _ => ?_) hr
  simp only [execOp, hop, hx, hy, Sem.run_bind, run_eqGuard_agg w op t x y xs ys hm, Result.andThen_ok, hrun]
  rfl
theorem SeqP.nil (h : K a w) : SeqP P ds K R T [] a w := h
end
end Go.Sq

set_option linter.unusedSimpArgs false
set_option linter.unusedVariables false
set_option maxRecDepth 100000
namespace Go.Proofs.Ytdphfhenjndkkaa
open Go.RowKit Go.Sq Go.Wd

/-- An entry: its epoch, ID, stream, expected version, kind, argument. -/
abbrev Ent := Int × Int × Int × Int × Int × Int

def vals (e : Ent) : List Value := [.int .i64 e.1, .int .i64 e.2.1, .int .i64 e.2.2.1, .int .i64 e.2.2.2.1, .int .i64 e.2.2.2.2.1, .int .i64 e.2.2.2.2.2]

/-- The six cells of an entry. -/
def EntAt (w : World) (b o : Nat) (e : Ent) : Prop :=
  w.cell? ⟨b, o, none⟩ = some (.int .i64 e.1) ∧ w.cell? ⟨b, o + 1, none⟩ = some (.int .i64 e.2.1) ∧ w.cell? ⟨b, o + 2, none⟩ = some (.int .i64 e.2.2.1) ∧
  w.cell? ⟨b, o + 3, none⟩ = some (.int .i64 e.2.2.2.1) ∧ w.cell? ⟨b, o + 4, none⟩ = some (.int .i64 e.2.2.2.2.1) ∧ w.cell? ⟨b, o + 5, none⟩ = some (.int .i64 e.2.2.2.2.2)

/-- The slice at A holds these entries, below block B. -/
def Ents (w : World) (B : Nat) (A : Option Addr) (l : List Ent) : Prop :=
  0 < l.length → ∃ b off, A = some ⟨b, off, none⟩ ∧ b < B ∧ ∀ i e, l[i]? = some e → EntAt w b (off + i * 6) e

section
variable {w w' : World} {B B' : Nat} {A : Option Addr} {l : List Ent}
theorem EntAt.below {b o : Nat} {e : Ent} (h : EntAt w b o e) (hb : Below B w w') (hB : b < B) : EntAt w' b o e := by
  obtain ⟨h0, h1, h2, h3, h4, h5⟩ := h
  exact ⟨(hb.cell (p := ⟨b, _, none⟩) hB).trans h0, (hb.cell (p := ⟨b, _, none⟩) hB).trans h1, (hb.cell (p := ⟨b, _, none⟩) hB).trans h2,
    (hb.cell (p := ⟨b, _, none⟩) hB).trans h3, (hb.cell (p := ⟨b, _, none⟩) hB).trans h4, (hb.cell (p := ⟨b, _, none⟩) hB).trans h5⟩
theorem Ents.below (h : Ents w B A l) (hb : Below B w w') : Ents w' B A l := fun hl => by
  obtain ⟨b, off, ha, hB, hc⟩ := h hl
  exact ⟨b, off, ha, hB, fun i e he => (hc i e he).below hb hB⟩
theorem Ents.keep (h : Ents w B A l) (hB : B ≤ w.heap.size) (hb : Below w.heap.size w w') : Ents w' B A l := h.below (hb.mono hB)
theorem Ents.more (h : Ents w B A l) (hB : B ≤ B') : Ents w B' A l := fun hl => by
  obtain ⟨b, off, ha, hb, hc⟩ := h hl
  exact ⟨b, off, ha, by omega, hc⟩
theorem Ents.nil : Ents w B A [] := fun h => absurd h (by simp)
theorem Ents.take (h : Ents w B A l) (n : Nat) : Ents w B A (l.take n) := fun hl => by
  obtain ⟨b, off, ha, hb, hc⟩ := h (by simp at hl; omega)
  refine ⟨b, off, ha, hb, fun i e he => hc i e ?_⟩
  rw [List.getElem?_take] at he
  split at he
  · exact he
  · cases he
theorem Ents.at_ (h : Ents w B A l) {k : Nat} (hk : k < l.length) : ∃ b off e, A = some ⟨b, off, none⟩ ∧ Hid (l[k]? = some e) ∧ ∀ w', Below B w w' → EntAt w' b (off + k * 6) e := by
  obtain ⟨b, off, ha, hb, hc⟩ := h (by omega)
  exact ⟨b, off, _, ha, Lib.hid (List.getElem?_eq_getElem hk), fun w' hb' => (hc k _ (List.getElem?_eq_getElem hk)).below hb' hb⟩
end

/-- How many entries two logs begin with alike. -/
def commonL : List Ent → List Ent → Nat
  | a :: l, b :: m => if a = b then commonL l m + 1 else 0
  | _, _ => 0

theorem common_take : ∀ (l m : List Ent), l.take (commonL l m) = m.take (commonL l m)
  | [], m => by simp [commonL]
  | _ :: _, [] => by simp [commonL]
  | a :: l, b :: m => by
    unfold commonL
    split
    · rename_i h; subst h; simp [common_take l m]
    · simp
theorem common_le : ∀ (l m : List Ent), commonL l m ≤ l.length ∧ commonL l m ≤ m.length
  | [], m => by simp [commonL]
  | _ :: _, [] => by simp [commonL]
  | a :: l, b :: m => by
    have := common_le l m
    unfold commonL
    split <;> simp <;> omega
theorem common_is : ∀ (i : Nat) (l m : List Ent), i ≤ l.length → i ≤ m.length → l.take i = m.take i → (i = l.length ∨ i = m.length ∨ l[i]? ≠ m[i]?) → commonL l m = i
  | i, [], m, h1, _, _, _ => by simp at h1; simp [commonL, h1]
  | i, a :: l, [], _, h2, _, _ => by simp at h2; simp [commonL, h2]
  | 0, a :: l, b :: m, _, _, _, h4 => by
    simp at h4
    simp [commonL, h4]
  | i + 1, a :: l, b :: m, h1, h2, h3, h4 => by
    simp at h3
    obtain ⟨rfl, h3⟩ := h3
    simp only [commonL, if_true]
    rw [common_is i l m (by simpa using h1) (by simpa using h2) h3 (by simpa using h4)]
theorem common_stop (l m : List Ent) : commonL l m = l.length ∨ commonL l m = m.length ∨ l[commonL l m]? ≠ m[commonL l m]? := by
  induction l generalizing m with
  | nil => exact .inl rfl
  | cons a l ih =>
    cases m with
    | nil => exact .inr (.inl rfl)
    | cons b m =>
      unfold commonL
      split
      · rename_i h; subst h
        rcases ih m with h | h | h
        · exact .inl (by simp [h])
        · exact .inr (.inl (by simp [h]))
        · exact .inr (.inr (by simpa using h))
      · rename_i h
        exact .inr (.inr (by simpa using h))

theorem take_more {l m : List Ent} {j : Nat} {e : Ent} (h : l.take j = m.take j) (h1 : l[j]? = some e) (h2 : m[j]? = some e) : l.take (j + 1) = m.take (j + 1) := by
  rw [List.take_add_one, List.take_add_one, h, h1, h2]
theorem get_lt {l : List Ent} {j : Nat} {e : Ent} (h : l[j]? = some e) : j < l.length := (List.getElem?_eq_some_iff.1 h).1
theorem common_at {l m : List Ent} {j : Nat} {x y : Ent} (h : l.take j = m.take j) (h1 : l[j]? = some x) (h2 : m[j]? = some y) (hne : x ≠ y) : commonL l m = j :=
  common_is j l m (Nat.le_of_lt (get_lt h1)) (Nat.le_of_lt (get_lt h2)) h (.inr (.inr (by rw [h1, h2]; simpa using hne)))
theorem unlike_at {l m : List Ent} {j : Nat} {x y : Ent} (h1 : l[j]? = some x) (h2 : m[j]? = some y) (hne : x ≠ y) : l ≠ m := by
  rintro rfl
  rw [h1] at h2
  exact hne (Option.some.inj h2)

/-- Two structs of an entry's kind, compared. -/
theorem neq_ent (w : World) (e f : Ent) : (binOp .neq 64 (.agg (vals e).toArray) (.agg (vals f).toArray)).run Try.prog w = .ok (.bool (decide (e ≠ f))) w := by
  obtain ⟨e0, e1, e2, e3, e4, e5⟩ := e
  obtain ⟨f0, f1, f2, f3, f4, f5⟩ := f
  have g0 := Try.underlying64
  simp [vals, go_sem]
  (repeat' split) <;> simp_all

theorem eql_ent (w : World) (e f : Ent) : (binOp .eql 64 (.agg (vals e).toArray) (.agg (vals f).toArray)).run Try.prog w = .ok (.bool (decide (e = f))) w := by
  obtain ⟨e0, e1, e2, e3, e4, e5⟩ := e
  obtain ⟨f0, f1, f2, f3, f4, f5⟩ := f
  have g0 := Try.underlying64
  simp [vals, go_sem]
  (repeat' split) <;> simp_all

end Go.Proofs.Ytdphfhenjndkkaa

set_option linter.unusedSimpArgs false
set_option linter.unusedVariables false
set_option maxRecDepth 100000
namespace Go.Proofs.Ytdphfhenjndkkaa
open Go.RowKit Go.Sq Go.Wd

set_option maxHeartbeats 1000000 in
theorem equal_any (l m : List Ent) (A B : Option Addr) (c d : Nat) (w : World) (ha : Ents w w.heap.size A l) (hb : Ents w w.heap.size B m) (hl : l.length ≤ 9223372036854775807) (hm : m.length ≤ 9223372036854775807) :
    Calls Try.prog 91 #[.slice A l.length c, .slice B m.length d] w fun e w' => e = .returned (.bool (decide (l = m))) ∧ Below w.heap.size w w' := by
  have hw : Below w.heap.size w w := Below.refl _ _
  have H := Lib.hid (And.intro ha hb)
  clear ha hb
  by_cases hlm : l.length = m.length
  · have hmn : (l.length == m.length) = true := by simpa using hlm
    have HLM := Lib.hid hlm
    clear hlm
    have hlm1 : l.length ≤ m.length := by have := HLM.out; omega
    have hlm2 : m.length ≤ l.length := by have := HLM.out; omega
    go_enter Try.func91, Try.ntmps91
    go_wp2_with fail
    go_loopg [13] l.length (fun k i wr => ∃ j : Nat, k = l.length - j ∧ j ≤ l.length ∧ i = .int .i64 j ∧ Below w.heap.size w wr ∧ l.take j = m.take j)
    case atStart => exact ⟨0, rfl, by omega, rfl, hw, by simp⟩
    case round =>
      clear hw
      obtain ⟨j, hk, hj, rfl, hwr, ht⟩ := hrel
      have AA : Aside (gk = l.length - j ∧ l.take j = m.take j) := ⟨hk, ht⟩
      clear hk ht
      by_cases hlt : j < l.length
      · have hjm : j < m.length := by omega
        obtain ⟨b1, o1, x, rfl, hx, FA⟩ := H.out.1.at_ hlt
        obtain ⟨b2, o2, y, rfl, hy, FB⟩ := H.out.2.at_ hjm
        go_wp2_with fail
        refine wp_region_p ([(0, true), (1, true), (2, true), (3, true), (4, true), (5, true), (6, true), (7, true), (8, true)]) (fun w' => Below w.heap.size w w') (by kernel_rfl) rfl (by kernel_rfl) (by kernel_rfl) (hwr.drew) rfl ?_
        intro KP RP TP hKP hTP hTP'
        simp only [pick, nth]
        go_wp2_with (first
          | (apply SeqP.skip; rfl; simp only [Act.put, List.setIfInBounds_toArray, List.set_cons_zero, List.set_cons_succ])
          | (apply SeqP.aggbin; (with_reducible rfl); (with_reducible exact Try.eqGuardType64); rfl; rfl; rfl; (exact (fun w => neq_ent w x y)); simp only [Act.put, List.setIfInBounds_toArray, List.set_cons_zero, List.set_cons_succ])
          | (apply SeqP.call; rfl; rfl; (intro w2 hw; have hw := hTP _ hw; ((obtain ⟨p0, p1, p2, p3, p4, p5⟩ := FA _ hw; obtain ⟨q0, q1, q2, q3, q4, q5⟩ := FB _ hw)); go_simp; exact ⟨rfl, rfl⟩); (intro w2 hw; have hw := hTP _ hw; ((obtain ⟨p0, p1, p2, p3, p4, p5⟩ := FA _ hw; obtain ⟨q0, q1, q2, q3, q4, q5⟩ := FB _ hw)); (first | fail)); simp only [Act.put, List.setIfInBounds_toArray, List.set_cons_zero, List.set_cons_succ])
          | (apply SeqP.pure; rfl; (intro w2 hw; have hw := hTP _ hw; ((obtain ⟨p0, p1, p2, p3, p4, p5⟩ := FA _ hw; obtain ⟨q0, q1, q2, q3, q4, q5⟩ := FB _ hw)); go_simp; with_reducible rfl); simp only [Act.put, List.setIfInBounds_toArray, List.set_cons_zero, List.set_cons_succ])
          | (apply SeqP.split; rfl; rfl; all_goals (intro hc; simp only [hc]; try simp only [beq_iff_eq, decide_eq_true_eq, beq_eq_false_iff_ne, decide_eq_false_iff_not, bne_iff_ne, ne_eq, Bool.not_eq_true', Bool.not_eq_false', Int.not_le, Int.not_lt, bne_eq_false_iff_eq, Bool.or_eq_true, Bool.and_eq_true, Bool.or_eq_false_iff] at hc)))
        apply SeqP.nil
        refine hKP _ _ (hTP' _ hwr.drew) ?_
        clear hKP hTP hTP' FA FB
        go_wp2_with fail
        · go_ret
          have hne : x ≠ y := by assumption
          exact ⟨ret_bool (by have := unlike_at hx.out hy.out hne; simp [this]), hwr.drew⟩
        · go_roundg (l.length - (j + 1))
          case measure => have hkk := AA.out.1; omega
          case rel =>
            have hne : ¬ x ≠ y := by assumption
            obtain rfl : x = y := by simpa using hne
            exact ⟨j + 1, rfl, by omega, by go_num, hwr.drew, take_more AA.out.2 hx.out hy.out⟩
      · have hjN : j = l.length := by omega
        have heq : l = m := by
          have h := AA.out.2
          rw [hjN, List.take_length, HLM.out, List.take_length] at h
          exact h
        go_wp2_with fail
        go_ret
        exact ⟨ret_bool (by simp [heq]), hwr⟩
  · have hne : (l.length == m.length) = false := by simpa using hlm
    have hlm' : l ≠ m := fun e => hlm (by rw [e])
    go_enter Try.func91, Try.ntmps91
    go_wp2_with fail
    go_ret
    exact ⟨ret_bool (by simp [hlm']), hw⟩

theorem equal_at {n1 n2 : Nat} (l m : List Ent) (h1 : n1 = l.length) (h2 : n2 = m.length) (A B : Option Addr) (c d : Nat) (w : World) (ha : Ents w w.heap.size A l) (hb : Ents w w.heap.size B m) (hl : l.length ≤ 9223372036854775807) (hm : m.length ≤ 9223372036854775807) :
    Calls Try.prog 91 #[.slice A n1 c, .slice B n2 d] w fun e w' => e = .returned (.bool (decide (l = m))) ∧ Below w.heap.size w w' := by
  subst h1; subst h2
  exact equal_any l m A B c d w ha hb hl hm

theorem prefix_any (l m : List Ent) (A B : Option Addr) (c d : Nat) (w : World) (ha : Ents w w.heap.size A l) (hb : Ents w w.heap.size B m) (hl : l.length ≤ 9223372036854775807) (hm : m.length ≤ 9223372036854775807) (hd : m.length ≤ d) (hd2 : d ≤ 9223372036854775807) :
    Calls Try.prog 74 #[.slice A l.length c, .slice B m.length d] w fun e w' => e = .returned (.bool (decide (l <+: m))) ∧ Below w.heap.size w w' := by
  have H := Lib.hid (And.intro ha hb)
  clear ha hb
  by_cases hlm : l.length ≤ m.length
  · have hcap : l.length ≤ d := by omega
    have hlen : Hid (l.length = (m.take l.length).length) := Lib.hid (by rw [List.length_take]; omega)
    go_enter Try.func74, Try.ntmps74
    go_wp2_with fail
    refine (equal_at l (m.take l.length) rfl hlen.out _ _ _ _ _ H.out.1 (H.out.2.take _) hl (by rw [← hlen.out]; exact hl)).mono ?_
    rintro e w1 ⟨rfl, hb⟩
    have hp : decide (l = m.take l.length) = decide (l <+: m) := by
      rw [Bool.eq_iff_iff, decide_eq_true_eq, decide_eq_true_eq, List.prefix_iff_eq_take]
    rw [hp]
    go_wp2_with fail
    go_ret
    exact ⟨rfl, hb⟩
  · have hp : decide (l <+: m) = false := by
      simp only [decide_eq_false_iff_not]
      intro h
      exact hlm h.length_le
    rw [hp]
    have hlm' : m.length < l.length := by omega
    go_enter Try.func74, Try.ntmps74
    go_wp2_with fail
    go_ret
    exact ⟨rfl, Below.refl _ _⟩

theorem nan_any (a : Int) (w : World) : Calls Try.prog 118 #[.int .i64 a] w fun e w' => e = .returned (.bool false) ∧ w' = w := by
  have h : (a != a) = false := by simp
  go_enter Try.func118, Try.ntmps118
  go_wp2
  go_ret
  exact ⟨rfl, rfl⟩

/-- Which of two numbers is the greater one. -/
def cmpL (a b : Int) : Int := if a < b then -1 else if b < a then 1 else 0

theorem compare_any (a b : Int) (w : World) : Calls Try.prog 112 #[.int .i64 a, .int .i64 b] w fun e w' => e = .returned (.int .i64 (cmpL a b)) ∧ w' = w := by
  rcases Int.lt_trichotomy a b with h | h | h
  · go_enter Try.func112, Try.ntmps112
    go_wp2_with (first | (go_at_call_of 118 (.int .i64 a); refine (nan_any _ _).mono ?_; rintro e w1 ⟨rfl, rfl⟩) | (go_at_call 118; refine (nan_any _ _).mono ?_; rintro e w1 ⟨rfl, rfl⟩))
    go_ret
    exact ⟨ret_int (by simp [cmpL, h]), rfl⟩
  · subst h
    go_enter Try.func112, Try.ntmps112
    go_wp2_with (go_at_call 118; refine (nan_any _ _).mono ?_; rintro e w1 ⟨rfl, rfl⟩)
    go_ret
    exact ⟨ret_int (by simp [cmpL]), rfl⟩
  · have h' : ¬ a < b := by omega
    go_enter Try.func112, Try.ntmps112
    go_wp2_with (go_at_call 118; refine (nan_any _ _).mono ?_; rintro e w1 ⟨rfl, rfl⟩)
    go_ret
    exact ⟨ret_int (by simp [cmpL, h, h']), rfl⟩

theorem epoch_any (e f : Ent) (w : World) : Calls Try.prog 98 #[.agg (vals e).toArray, .agg (vals f).toArray] w fun x w' => x = .returned (.int .i64 (cmpL e.1 f.1)) ∧ Below w.heap.size w w' := by
  unfold vals
  go_enter Try.func98, Try.ntmps98
  go_wp2_with (go_at_call 112; refine (compare_any _ _ _).mono ?_; rintro e w1 ⟨rfl, rfl⟩)
  go_ret
  exact ⟨rfl, by (repeat (first | with_reducible apply Below.drew | with_reducible refine Below.setCell ?_ (by first | exact Nat.le_refl _ | (simp; done) | (simp; omega) | omega) _ | with_reducible refine Below.alloc ?_ (by first | exact Nat.le_refl _ | (simp; done) | (simp; omega) | omega) _ | with_reducible exact Below.refl _ _ | with_reducible assumption))⟩

/-- Epochs do not fall. -/
def Rises (l : List Ent) : Prop := ∀ i x y, l[i]? = some x → l[i + 1]? = some y → x.1 ≤ y.1

def risesB : List Ent → Bool
  | a :: b :: l => decide (a.1 ≤ b.1) && risesB (b :: l)
  | _ => true

theorem rises_iff : ∀ (l : List Ent), risesB l = true ↔ Rises l
  | [] => by simp [risesB, Rises]
  | [a] => by simp [risesB, Rises]
  | a :: b :: l => by
    have ih := rises_iff (b :: l)
    simp only [risesB, Bool.and_eq_true, decide_eq_true_eq, ih]
    constructor
    · rintro ⟨h1, h2⟩ i x y hx hy
      cases i with
      | zero => simp at hx hy; subst hx; subst hy; exact h1
      | succ i => exact h2 i x y (by simpa using hx) (by simpa using hy)
    · intro h
      exact ⟨h 0 a b rfl rfl, fun i x y hx hy => h (i + 1) x y (by simpa using hx) (by simpa using hy)⟩

theorem rises_no {l : List Ent} {i : Nat} {x y : Ent} (hx : l[i]? = some x) (hy : l[i + 1]? = some y) (h : y.1 < x.1) : risesB l = false := by
  rw [Bool.eq_false_iff, ne_eq, rises_iff]
  intro hr
  have := hr i x y hx hy
  omega

theorem sorted_any (l : List Ent) (A : Option Addr) (c : Nat) (w : World) (ha : Ents w w.heap.size A l) (hl : l.length ≤ 9223372036854775807) :
    Calls Try.prog 97 #[.slice A l.length c, .func (.func 98) #[] #[]] w fun e w' => e = .returned (.bool (risesB l)) ∧ Below w.heap.size w w' := by
  have hw : Below w.heap.size w w := Below.refl _ _
  have H := Lib.hid ha
  clear ha
  by_cases h0 : l.length = 0
  · have hr : risesB l = true := by
      have : l = [] := List.eq_nil_of_length_eq_zero h0
      subst this; rfl
    rw [hr]
    have h0' : l.length ≤ 0 := by omega
    have h1 : ((l.length : Int) - 1) = -1 := by omega
    clear h0
    go_enter Try.func97, Try.ntmps97
    go_wp2_with fail
    refine wp_loop_rounds 1 ?_
    rw [rounds_succ]
    go_wp2_with fail
    go_ret
    exact ⟨rfl, hw⟩
  · obtain ⟨n, hn⟩ : ∃ n, l.length = n + 1 := ⟨l.length - 1, by omega⟩
    have HL := Lib.hid hn
    rw [hn]
    rw [hn] at hl
    clear hn h0
    go_enter Try.func97, Try.ntmps97
    go_wp2_with fail
    go_loopg [5] n (fun k i wr => ∃ j : Nat, k = j ∧ j ≤ n ∧ i = .int .i64 j ∧ Below w.heap.size w wr ∧ ∀ i x y, j ≤ i → l[i]? = some x → l[i + 1]? = some y → x.1 ≤ y.1)
    case atStart =>
      refine ⟨n, rfl, by omega, by go_num, hw, ?_⟩
      intro i x y hi hx hy
      have := get_lt hy
      have := HL.out
      omega
    case round =>
      clear hw
      obtain ⟨j, hk, hj, rfl, hwr, ht⟩ := hrel
      have AA : Aside (gk = j ∧ ∀ i x y, j ≤ i → l[i]? = some x → l[i + 1]? = some y → x.1 ≤ y.1) := ⟨hk, ht⟩
      clear hk ht
      cases j with
      | zero =>
        have hr : risesB l = true := (rises_iff l).2 fun i x y hx hy => AA.out.2 i x y (Nat.zero_le _) hx hy
        go_wp2_with fail
        go_ret
        exact ⟨ret_bool (by rw [hr]), hwr⟩
      | succ j =>
        obtain ⟨b1, o1, x, rfl, hx, FA⟩ := H.out.at_ (show j + 1 < l.length by rw [HL.out]; omega)
        obtain ⟨b2, o2, y, hab, hy, FB⟩ := H.out.at_ (show j < l.length by rw [HL.out]; omega)
        cases hab
        have hj1 : j < n := by omega
        have hj2 : j < n + 1 := by omega
        have i0 : (0 : Int) ≤ (j : Int) + 1 := by omega
        have i1 : (j : Int) + 1 < (n : Int) + 1 := by omega
        have i2 : (j : Int) < (n : Int) + 1 := by omega
        have hsub : IntKind.i64.wrap (j : Int) = j := IntWalk.i64_in _ (by omega)
        go_wp2_with fail
        refine wp_region_p ([(0, true), (1, true), (2, true), (3, true), (4, true), (5, true), (6, true), (7, true), (8, true), (9, true), (10, false), (11, true)]) (fun w' => Below w.heap.size w w') (by kernel_rfl) rfl (by kernel_rfl) (by kernel_rfl) (hwr.drew) rfl ?_
        intro KP RP TP hKP hTP hTP'
        simp only [pick, nth]
        go_wp2_with (first
          | (apply SeqP.skip; rfl; simp only [Act.put, List.setIfInBounds_toArray, List.set_cons_zero, List.set_cons_succ])
          | (apply SeqP.call; rfl; rfl; (intro w2 hw; have hw := hTP _ hw; ((obtain ⟨p0, p1, p2, p3, p4, p5⟩ := FA _ hw; obtain ⟨q0, q1, q2, q3, q4, q5⟩ := FB _ hw)); go_simp; exact ⟨rfl, rfl⟩); (intro w2 hw; have hw := hTP _ hw; ((obtain ⟨p0, p1, p2, p3, p4, p5⟩ := FA _ hw; obtain ⟨q0, q1, q2, q3, q4, q5⟩ := FB _ hw)); (first | fail)); simp only [Act.put, List.setIfInBounds_toArray, List.set_cons_zero, List.set_cons_succ])
          | (apply SeqP.pure; rfl; (intro w2 hw; have hw := hTP _ hw; ((obtain ⟨p0, p1, p2, p3, p4, p5⟩ := FA _ hw; obtain ⟨q0, q1, q2, q3, q4, q5⟩ := FB _ hw)); go_simp; with_reducible rfl); simp only [Act.put, List.setIfInBounds_toArray, List.set_cons_zero, List.set_cons_succ])
          | (apply SeqP.split; rfl; rfl; all_goals (intro hc; simp only [hc]; try simp only [beq_iff_eq, decide_eq_true_eq, beq_eq_false_iff_ne, decide_eq_false_iff_not, bne_iff_ne, ne_eq, Bool.not_eq_true', Bool.not_eq_false', Int.not_le, Int.not_lt, bne_eq_false_iff_eq, Bool.or_eq_true, Bool.and_eq_true, Bool.or_eq_false_iff] at hc)))
        apply SeqP.eff
        · rfl
        intro KE hKE
        go_wp2_with fail
        refine (epoch_any x y _).mono ?_
        rintro e w1 ⟨rfl, hb⟩
        have hw1 := below_trans hwr.drew hb hwr.size
        refine hKE _ _ (hTP' _ hw1) ?_
        clear hKE hb hwr FA FB
        by_cases hlt : x.1 < y.1
        · have hc : cmpL x.1 y.1 = -1 := by simp [cmpL, hlt]
          have hr := rises_no hy.out hx.out hlt
          rw [hc]
          clear hc
          go_wp2_with (first
            | (apply SeqP.skip; rfl; simp only [Act.put, List.setIfInBounds_toArray, List.set_cons_zero, List.set_cons_succ])
            | (apply SeqP.call; rfl; rfl; (intro w2 hw; have hw := hTP _ hw; (skip); go_simp; exact ⟨rfl, rfl⟩); (intro w2 hw; have hw := hTP _ hw; (skip); (first | fail)); simp only [Act.put, List.setIfInBounds_toArray, List.set_cons_zero, List.set_cons_succ])
            | (apply SeqP.pure; rfl; (intro w2 hw; have hw := hTP _ hw; (skip); go_simp; with_reducible rfl); simp only [Act.put, List.setIfInBounds_toArray, List.set_cons_zero, List.set_cons_succ])
            | (apply SeqP.split; rfl; rfl; all_goals (intro hc; simp only [hc]; try simp only [beq_iff_eq, decide_eq_true_eq, beq_eq_false_iff_ne, decide_eq_false_iff_not, bne_iff_ne, ne_eq, Bool.not_eq_true', Bool.not_eq_false', Int.not_le, Int.not_lt, bne_eq_false_iff_eq, Bool.or_eq_true, Bool.and_eq_true, Bool.or_eq_false_iff] at hc)))
          apply SeqP.nil
          refine hKP _ _ (hTP' _ hw1) ?_
          clear hKP hTP hTP'
          go_wp2_with fail
          go_ret
          exact ⟨ret_bool (by rw [hr]), hw1⟩
        · have hc : 0 ≤ cmpL x.1 y.1 := by unfold cmpL; rw [if_neg hlt]; split <;> omega
          generalize cmpL x.1 y.1 = z at hc
          go_wp2_with (first
            | (apply SeqP.skip; rfl; simp only [Act.put, List.setIfInBounds_toArray, List.set_cons_zero, List.set_cons_succ])
            | (apply SeqP.call; rfl; rfl; (intro w2 hw; have hw := hTP _ hw; (skip); go_simp; exact ⟨rfl, rfl⟩); (intro w2 hw; have hw := hTP _ hw; (skip); (first | fail)); simp only [Act.put, List.setIfInBounds_toArray, List.set_cons_zero, List.set_cons_succ])
            | (apply SeqP.pure; rfl; (intro w2 hw; have hw := hTP _ hw; (skip); go_simp; with_reducible rfl); simp only [Act.put, List.setIfInBounds_toArray, List.set_cons_zero, List.set_cons_succ])
            | (apply SeqP.split; rfl; rfl; all_goals (intro hc; simp only [hc]; try simp only [beq_iff_eq, decide_eq_true_eq, beq_eq_false_iff_ne, decide_eq_false_iff_not, bne_iff_ne, ne_eq, Bool.not_eq_true', Bool.not_eq_false', Int.not_le, Int.not_lt, bne_eq_false_iff_eq, Bool.or_eq_true, Bool.and_eq_true, Bool.or_eq_false_iff] at hc)))
          apply SeqP.nil
          refine hKP _ _ (hTP' _ hw1) ?_
          clear hKP hTP hTP'
          go_wp2_with fail
          go_roundg j
          case measure => have hkk := AA.out.1; omega
          case rel =>
            refine ⟨j, rfl, by omega, by go_num, hw1, ?_⟩
            intro i u v hi hu hv
            rcases Nat.lt_or_ge j i with h | h
            · exact AA.out.2 i u v (by omega) hu hv
            · obtain rfl : i = j := by omega
              have e1 := hy.out
              have e2 := hx.out
              rw [hu] at e1
              rw [hv] at e2
              cases e1
              cases e2
              omega

theorem rising_any (l : List Ent) (A : Option Addr) (c : Nat) (w : World) (ha : Ents w w.heap.size A l) (hl : l.length ≤ 9223372036854775807) :
    Calls Try.prog 88 #[.slice A l.length c] w fun e w' => e = .returned (.bool (risesB l)) ∧ Below w.heap.size w w' := by
  go_enter Try.func88, Try.ntmps88
  go_wp2_with fail
  refine (sorted_any l A c _ ha hl).mono ?_
  rintro e w1 ⟨rfl, hb⟩
  go_wp2_with fail
  go_ret
  exact ⟨rfl, hb⟩

set_option maxHeartbeats 1000000 in
theorem same_any (l m : List Ent) (A B : Option Addr) (c d : Nat) (w : World) (ha : Ents w w.heap.size A l) (hb : Ents w w.heap.size B m) (hl : l.length ≤ 9223372036854775807) (hm : m.length ≤ 9223372036854775807) :
    Calls Try.prog 22 #[.slice A l.length c, .slice B m.length d] w fun e w' => e = .returned (.bool (decide (l = m))) ∧ Below w.heap.size w w' := by
  have hw : Below w.heap.size w w := Below.refl _ _
  have H := Lib.hid (And.intro ha hb)
  clear ha hb
  by_cases hlm : l.length = m.length
  · have hmn : (l.length == m.length) = true := by simpa using hlm
    have HLM := Lib.hid hlm
    clear hlm
    have hlm1 : l.length ≤ m.length := by have := HLM.out; omega
    have hlm2 : m.length ≤ l.length := by have := HLM.out; omega
    go_enter Try.func22, Try.ntmps22
    go_wp2_with fail
    go_loopg [5] l.length (fun k i wr => ∃ j : Nat, k = l.length - j ∧ j ≤ l.length ∧ i = .int .i64 j ∧ Below w.heap.size w wr ∧ l.take j = m.take j)
    case atStart => exact ⟨0, rfl, by omega, rfl, hw, by simp⟩
    case round =>
      clear hw
      obtain ⟨j, hk, hj, rfl, hwr, ht⟩ := hrel
      have AA : Aside (gk = l.length - j ∧ l.take j = m.take j) := ⟨hk, ht⟩
      clear hk ht
      by_cases hlt : j < l.length
      · have hjm : j < m.length := by omega
        obtain ⟨b1, o1, x, rfl, hx, FA⟩ := H.out.1.at_ hlt
        obtain ⟨b2, o2, y, rfl, hy, FB⟩ := H.out.2.at_ hjm
        go_wp2_with fail
        refine wp_region_p ([(0, true), (1, true), (2, true), (3, true), (4, true), (5, true), (6, true), (7, true), (8, true)]) (fun w' => Below w.heap.size w w') (by kernel_rfl) rfl (by kernel_rfl) (by kernel_rfl) (hwr.drew) rfl ?_
        intro KP RP TP hKP hTP hTP'
        simp only [pick, nth]
        go_wp2_with (first
          | (apply SeqP.skip; rfl; simp only [Act.put, List.setIfInBounds_toArray, List.set_cons_zero, List.set_cons_succ])
          | (apply SeqP.aggbin; (with_reducible rfl); (with_reducible exact Try.eqGuardType64); rfl; rfl; rfl; (exact (fun w => neq_ent w x y)); simp only [Act.put, List.setIfInBounds_toArray, List.set_cons_zero, List.set_cons_succ])
          | (apply SeqP.call; rfl; rfl; (intro w2 hw; have hw := hTP _ hw; ((obtain ⟨p0, p1, p2, p3, p4, p5⟩ := FA _ hw; obtain ⟨q0, q1, q2, q3, q4, q5⟩ := FB _ hw)); go_simp; exact ⟨rfl, rfl⟩); (intro w2 hw; have hw := hTP _ hw; ((obtain ⟨p0, p1, p2, p3, p4, p5⟩ := FA _ hw; obtain ⟨q0, q1, q2, q3, q4, q5⟩ := FB _ hw)); (first | fail)); simp only [Act.put, List.setIfInBounds_toArray, List.set_cons_zero, List.set_cons_succ])
          | (apply SeqP.pure; rfl; (intro w2 hw; have hw := hTP _ hw; ((obtain ⟨p0, p1, p2, p3, p4, p5⟩ := FA _ hw; obtain ⟨q0, q1, q2, q3, q4, q5⟩ := FB _ hw)); go_simp; with_reducible rfl); simp only [Act.put, List.setIfInBounds_toArray, List.set_cons_zero, List.set_cons_succ])
          | (apply SeqP.split; rfl; rfl; all_goals (intro hc; simp only [hc]; try simp only [beq_iff_eq, decide_eq_true_eq, beq_eq_false_iff_ne, decide_eq_false_iff_not, bne_iff_ne, ne_eq, Bool.not_eq_true', Bool.not_eq_false', Int.not_le, Int.not_lt, bne_eq_false_iff_eq, Bool.or_eq_true, Bool.and_eq_true, Bool.or_eq_false_iff] at hc)))
        apply SeqP.nil
        refine hKP _ _ (hTP' _ hwr.drew) ?_
        clear hKP hTP hTP' FA FB
        go_wp2_with fail
        · go_ret
          have hne : x ≠ y := by assumption
          exact ⟨ret_bool (by have := unlike_at hx.out hy.out hne; simp [this]), hwr.drew⟩
        · go_roundg (l.length - (j + 1))
          case measure => have hkk := AA.out.1; omega
          case rel =>
            have hne : ¬ x ≠ y := by assumption
            obtain rfl : x = y := by simpa using hne
            exact ⟨j + 1, rfl, by omega, by go_num, hwr.drew, take_more AA.out.2 hx.out hy.out⟩
      · have hjN : j = l.length := by omega
        have heq : l = m := by
          have h := AA.out.2
          rw [hjN, List.take_length, HLM.out, List.take_length] at h
          exact h
        go_wp2_with fail
        go_ret
        exact ⟨ret_bool (by simp [heq]), hwr⟩
  · have hne : (l.length == m.length) = false := by simpa using hlm
    have hlm' : l ≠ m := fun e => hlm (by rw [e])
    go_enter Try.func22, Try.ntmps22
    go_wp2_with fail
    go_ret
    exact ⟨ret_bool (by simp [hlm']), hw⟩
end Go.Proofs.Ytdphfhenjndkkaa

set_option linter.unusedSimpArgs false
set_option linter.unusedVariables false
set_option maxRecDepth 100000
namespace Go.Arch

structure St where
  tag : Int
  closed : Bool
  sum : Int
  ver : Int
structure Ev where
  kind : Int
  arg : Int
structure Ord where
  id : Int
  stream : Int
  expect : Int
  kind : Int
  arg : Int

def leastS (t : Int) : Int := if t = 1 then -1099511627776 else 0
def mayS (s : St) : Bool := decide ((s.tag = 0 ∧ s.closed = false ∧ s.sum = 0 ∧ s.ver = 0) ∨
  (1 ≤ s.tag ∧ s.tag ≤ 3 ∧ leastS s.tag ≤ s.sum ∧ s.sum ≤ 1099511627776 ∧ 1 ≤ s.ver ∧ s.ver ≤ 1099511627776 ∧ (s.closed = true → s.sum = 0)))
def comesS (s : St) (e : Ev) : Bool := decide (s.ver < 1099511627776 ∧ s.closed = false ∧
  ((e.kind = 1 ∧ s.tag = 0 ∧ 1 ≤ e.arg ∧ e.arg ≤ 3) ∨ (e.kind = 2 ∧ s.tag ≠ 0 ∧ 1 ≤ e.arg ∧ e.arg ≤ 1099511627776 - s.sum) ∨
   (e.kind = 3 ∧ (s.tag = 1 ∨ s.tag = 2) ∧ 1 ≤ e.arg ∧ e.arg ≤ s.sum - leastS s.tag) ∨ (e.kind = 4 ∧ s.tag ≠ 0 ∧ s.sum = 0 ∧ e.arg = 0)))
def applyS (s : St) (e : Ev) : St :=
  if mayS s = true ∧ comesS s e = true then
    { tag := if e.kind = 1 then e.arg else s.tag, closed := if e.kind = 4 then true else s.closed,
      sum := if e.kind = 2 then s.sum + e.arg else if e.kind = 3 then s.sum - e.arg else s.sum, ver := s.ver + 1 }
  else s
def ordOk (o : Ord) : Bool := decide (1 ≤ o.id ∧ o.id ≤ 2147483647 ∧ 0 ≤ o.stream ∧ o.stream ≤ 3 ∧ -1 ≤ o.expect ∧ o.expect ≤ 2147483647 ∧ 1 ≤ o.kind ∧ o.kind ≤ 4 ∧ -1048576 ≤ o.arg ∧ o.arg ≤ 1048576)
def evOf (o : Ord) : Ev := ⟨o.kind, if o.kind = 4 then 0 else o.arg⟩
/-- What an order comes to: 1 accepted, 2 conflict, 3 rejected, 7 malformed. -/
def codeS (s : St) (o : Ord) : Int :=
  if mayS s = true ∧ ordOk o = true then if 0 ≤ o.expect ∧ o.expect ≠ s.ver then 2 else if comesS s (evOf o) = true then 1 else 3 else 7
def verS (s : St) (o : Ord) : Int := if mayS s = true then (if codeS s o = 1 then s.ver + 1 else s.ver) else 0

/-- api.ErrArg where it may not be. -/
def errOf (b : Bool) : Int := if b = true then 0 else 2
theorem ret_st {p q : St} (h : p = q) : Ending.returned (.agg #[.int .i64 p.tag, .bool p.closed, .int .i64 p.sum, .int .i64 p.ver]) = .returned (.agg #[.int .i64 q.tag, .bool q.closed, .int .i64 q.sum, .int .i64 q.ver]) := by rw [h]
theorem mayS_zero {s : St} (h : s.tag < 1 ∨ 3 < s.tag) : mayS s = decide (s.tag = 0 ∧ s.closed = false ∧ s.sum = 0 ∧ s.ver = 0) := by
  unfold mayS; rw [decide_eq_decide]; constructor
  · rintro (h1 | h1)
    · exact h1
    · omega
  · exact fun h => .inl h
theorem mayS_some {s : St} (h : 1 ≤ s.tag ∧ s.tag ≤ 3) : mayS s = decide (leastS s.tag ≤ s.sum ∧ s.sum ≤ 1099511627776 ∧ 1 ≤ s.ver ∧ s.ver ≤ 1099511627776 ∧ (s.closed = true → s.sum = 0)) := by
  unfold mayS; rw [decide_eq_decide]; constructor
  · rintro (h1 | h1)
    · omega
    · exact h1.2.2
  · exact fun h' => .inr ⟨h.1, h.2, h'⟩
theorem applyS_1 (s v k a : Int) (hm : mayS ⟨1, false, s, v⟩ = true) (hv : v ≠ 1099511627776) : applyS ⟨1, false, s, v⟩ ⟨k, a⟩ =
    if k = 2 ∧ 1 ≤ a ∧ a ≤ 1099511627776 - s then ⟨1, false, s + a, v + 1⟩ else if k = 3 ∧ 1 ≤ a ∧ a ≤ s + 1099511627776 then ⟨1, false, s - a, v + 1⟩
    else if k = 4 ∧ a = 0 ∧ s = 0 then ⟨1, true, s, v + 1⟩ else ⟨1, false, s, v⟩ := by
  have hb := hm
  rw [mayS_some (by simp)] at hb
  simp [leastS] at hb
  obtain ⟨b1, b2, b3, b4⟩ := hb
  have hc : comesS ⟨1, false, s, v⟩ ⟨k, a⟩ = decide ((k = 2 ∧ 1 ≤ a ∧ a ≤ 1099511627776 - s) ∨ (k = 3 ∧ 1 ≤ a ∧ a ≤ s + 1099511627776) ∨ (k = 4 ∧ s = 0 ∧ a = 0)) := by
    unfold comesS
    rw [decide_eq_decide]
    simp [leastS]
    omega
  unfold applyS
  rw [hc, hm]
  simp only [true_and, decide_eq_true_eq]
  by_cases h2 : k = 2
  · subst h2
    by_cases h : 1 ≤ a ∧ a ≤ 1099511627776 - s <;> simp [h]
  · by_cases h3 : k = 3
    · subst h3
      by_cases h : 1 ≤ a ∧ a ≤ s + 1099511627776 <;> simp [h]
    · by_cases h4 : k = 4
      · subst h4
        by_cases h : s = 0 ∧ a = 0
        · simp [h]
        · have h' : ¬ (a = 0 ∧ s = 0) := fun x => h ⟨x.2, x.1⟩
          simp [h, h']
      · simp [h2, h3, h4]
theorem applyS_2 (s v k a : Int) (hm : mayS ⟨2, false, s, v⟩ = true) (hv : v ≠ 1099511627776) : applyS ⟨2, false, s, v⟩ ⟨k, a⟩ =
    if k = 2 ∧ 1 ≤ a ∧ a ≤ 1099511627776 - s then ⟨2, false, s + a, v + 1⟩ else if k = 3 ∧ 1 ≤ a ∧ a ≤ s then ⟨2, false, s - a, v + 1⟩
    else if k = 4 ∧ a = 0 ∧ s = 0 then ⟨2, true, s, v + 1⟩ else ⟨2, false, s, v⟩ := by
  have hb := hm
  rw [mayS_some (by simp)] at hb
  simp [leastS] at hb
  obtain ⟨b1, b2, b3, b4⟩ := hb
  have hc : comesS ⟨2, false, s, v⟩ ⟨k, a⟩ = decide ((k = 2 ∧ 1 ≤ a ∧ a ≤ 1099511627776 - s) ∨ (k = 3 ∧ 1 ≤ a ∧ a ≤ s) ∨ (k = 4 ∧ s = 0 ∧ a = 0)) := by
    unfold comesS
    rw [decide_eq_decide]
    simp [leastS]
    omega
  unfold applyS
  rw [hc, hm]
  simp only [true_and, decide_eq_true_eq]
  by_cases h2 : k = 2
  · subst h2
    by_cases h : 1 ≤ a ∧ a ≤ 1099511627776 - s <;> simp [h]
  · by_cases h3 : k = 3
    · subst h3
      by_cases h : 1 ≤ a ∧ a ≤ s <;> simp [h]
    · by_cases h4 : k = 4
      · subst h4
        by_cases h : s = 0 ∧ a = 0
        · simp [h]
        · have h' : ¬ (a = 0 ∧ s = 0) := fun x => h ⟨x.2, x.1⟩
          simp [h, h']
      · simp [h2, h3, h4]
theorem applyS_3 (s v k a : Int) (hm : mayS ⟨3, false, s, v⟩ = true) (hv : v ≠ 1099511627776) : applyS ⟨3, false, s, v⟩ ⟨k, a⟩ =
    if k = 2 ∧ 1 ≤ a ∧ a ≤ 1099511627776 - s then ⟨3, false, s + a, v + 1⟩ else if k = 3 ∧ 1 ≤ a ∧ a ≤ 0 then ⟨3, false, s - a, v + 1⟩
    else if k = 4 ∧ a = 0 ∧ s = 0 then ⟨3, true, s, v + 1⟩ else ⟨3, false, s, v⟩ := by
  have hb := hm
  rw [mayS_some (by simp)] at hb
  simp [leastS] at hb
  obtain ⟨b1, b2, b3, b4⟩ := hb
  have hc : comesS ⟨3, false, s, v⟩ ⟨k, a⟩ = decide ((k = 2 ∧ 1 ≤ a ∧ a ≤ 1099511627776 - s) ∨ (k = 3 ∧ 1 ≤ a ∧ a ≤ 0) ∨ (k = 4 ∧ s = 0 ∧ a = 0)) := by
    unfold comesS
    rw [decide_eq_decide]
    simp [leastS]
    omega
  unfold applyS
  rw [hc, hm]
  simp only [true_and, decide_eq_true_eq]
  by_cases h2 : k = 2
  · subst h2
    by_cases h : 1 ≤ a ∧ a ≤ 1099511627776 - s <;> simp [h]
  · by_cases h3 : k = 3
    · subst h3
      by_cases h : 1 ≤ a ∧ a ≤ 0 <;> simp [h]
    · by_cases h4 : k = 4
      · subst h4
        by_cases h : s = 0 ∧ a = 0
        · simp [h]
        · have h' : ¬ (a = 0 ∧ s = 0) := fun x => h ⟨x.2, x.1⟩
          simp [h, h']
      · simp [h2, h3, h4]
theorem applyS_0 (k a : Int) : applyS ⟨0, false, 0, 0⟩ ⟨k, a⟩ = if k = 1 ∧ 1 ≤ a ∧ a ≤ 3 then ⟨a, false, 0, 1⟩ else ⟨0, false, 0, 0⟩ := by
  have hm : mayS ⟨0, false, 0, 0⟩ = true := by simp [mayS]
  have hc : comesS ⟨0, false, 0, 0⟩ ⟨k, a⟩ = decide (k = 1 ∧ 1 ≤ a ∧ a ≤ 3) := by
    unfold comesS
    rw [decide_eq_decide]
    simp
  unfold applyS
  rw [hc, hm]
  simp only [true_and, decide_eq_true_eq]
  by_cases h : k = 1 ∧ 1 ≤ a ∧ a ≤ 3
  · obtain ⟨rfl, h⟩ := h
    simp [h]
  · simp [h]
theorem applyS_same {t s v k a : Int} {c : Bool} (h : mayS ⟨t, c, s, v⟩ = false ∨ c = true ∨ v = 1099511627776) : applyS ⟨t, c, s, v⟩ ⟨k, a⟩ = ⟨t, c, s, v⟩ := by
  unfold applyS
  rw [if_neg]
  rintro ⟨h1, h2⟩
  rcases h with h | rfl | rfl
  · rw [h1] at h; cases h
  · simp [comesS] at h2
  · simp [comesS] at h2
end Go.Arch
