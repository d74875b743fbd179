/-
  A region that draws its order, walked by a schedule: quiet operations wherever one likes, the others where they are the only one that may come next.
-/
import Derived.Test.YtifeokabecgimaaSeq
import Derived.Laws.StructEq
set_option linter.unusedSimpArgs false
set_option linter.unusedVariables false
set_option maxRecDepth 100000
namespace Go.Sq
open Go

section
variable {P : Program} {ops : Array Oper} {Q : Exit → Act → World → Prop} {S : World → Prop}

def nth : List Oper → Nat → Oper
  | o :: _, 0 => o
  | _ :: l, n + 1 => nth l n
  | [], _ => default

/-- The operations of a schedule, with what is said of each: true: it is quiet. -/
def pick (l : List Oper) : List (Nat × Bool) → List (Bool × Oper)
  | [] => []
  | p :: r => (p.2, nth l p.1) :: pick l r

theorem nth_get : ∀ (l : List Oper) (i : Nat), i < l.length → l[i]? = some (nth l i)
  | o :: l, 0, _ => by simp [nth]
  | o :: l, i + 1, h => by simpa [nth] using nth_get l i (by simpa using h)
  | [], i, h => by simp at h

def depsIn (listed : Array Bool) : List Edge → Bool
  | [] => true
  | e :: l => (!binds' e || listed.getD e.on false) && depsIn listed l

def othersOk (ops : Array Oper) (o : Oper) (i : Nat) (listed : Array Bool) : Nat → List Oper → Bool
  | _, [] => true
  | j, oj :: l => (Nat.beq j i || listed.getD j true || waitsFor i oj.after.toList || o.apart ops oj) && othersOk ops o i listed (j + 1) l

def quietOk (ops : Array Oper) (i : Nat) (listed : Array Bool) : Bool :=
  Nat.blt i ops.size && !(listed.getD i true) && depsIn listed (nth ops.toList i).after.toList && othersOk ops (nth ops.toList i) i listed 0 ops.toList

def okP (ops : Array Oper) : List (Nat × Bool) → Array Bool → Bool
  | [], l => (Region.ready .any ops l).isEmpty
  | (i, true) :: r, l => quietOk ops i l && okP ops r (l.setIfInBounds i true)
  | (i, false) :: r, l => Nat.blt i ops.size && (match Region.ready .any ops l with | [j] => Nat.beq j i | _ => false) && okP ops r (l.setIfInBounds i true)

theorem depsIn_spec {listed : Array Bool} : ∀ {l : List Edge}, depsIn listed l = true → ∀ e ∈ l, Region.binds .any e = true → listed.getD e.on false = true
  | [], _, e, he, _ => by cases he
  | x :: l, h, e, he, hb => by
    simp only [depsIn, Bool.and_eq_true, Bool.or_eq_true, Bool.not_eq_true'] at h
    rcases List.mem_cons.1 he with rfl | he
    · rcases h.1 with h1 | h1
      · rw [binds'_eq, hb] at h1; cases h1
      · exact h1
    · exact depsIn_spec h.2 e he hb

theorem othersOk_spec {o : Oper} {i : Nat} {listed : Array Bool} : ∀ {l : List Oper} {k : Nat}, othersOk ops o i listed k l = true →
    ∀ m oj, l[m]? = some oj → k + m ≠ i → listed.getD (k + m) true = false → waitsFor i oj.after.toList = true ∨ o.apart ops oj = true
  | [], k, _, m, oj, hm, _, _ => by simp at hm
  | x :: l, k, h, m, oj, hm, hne, hun => by
    simp only [othersOk, Bool.and_eq_true, Bool.or_eq_true] at h
    cases m with
    | zero =>
      simp at hm hne hun
      subst hm
      rcases h.1 with ((h1 | h1) | h1) | h1
      · exact absurd (Nat.eq_of_beq_eq_true h1) hne
      · simp at h1; rw [hun] at h1; cases h1
      · exact .inl h1
      · exact .inr h1
    | succ m =>
      refine othersOk_spec h.2 m oj (by simpa using hm) ?_ ?_
      · intro e; exact hne (by omega)
      · rw [show k + 1 + m = k + (m + 1) from by omega]; exact hun

/-- The walk by a schedule. -/
def SeqP (P : Program) (ds : List (Option Tmp)) (K : Act → World → Prop) (R : Exit → Act → World → Prop) (S : World → Prop) : List (Bool × Oper) → Act → World → Prop
  | [], a, w => K a w
  | (true, o) :: r, a, w => ∃ v, ((wantedD ds o a.tmps = true ∧ ∀ w, S w → Gives P (fun w' => w' = w) o v a.eval w) ∨ (wantedD ds o a.tmps = false ∧ v = undef)) ∧ SeqP P ds K R S r (a.put o.dst v) w
  | (false, o) :: r, a, w => if wantedD ds o a.tmps then o.wp P a w (fun a' w' => S w' ∧ SeqP P ds K R S r a' w') R else S w ∧ SeqP P ds K R S r (a.put o.dst undef) w

theorem wpAnyH_P {ds : List (Option Tmp)} (hds : ops.toList.map (·.dst) = ds) (hsel : noSel ops.toList = true) (hQ : ∀ c a d v w, Q (.panic c) (a.put d v) w → Q (.panic c) a w) :
    ∀ (perm : List (Nat × Bool)) (listed : Array Bool) (a : Act) (w : World), okP ops perm listed = true → S w → SeqP P ds (Q .normal) Q S (pick ops.toList perm) a w → wpAnyH P .any ops Q S perm.length listed a w := by
  have hns : Region.noSelect ops = true := by
    unfold Region.noSelect
    rw [← Array.all_toList, List.all_eq_true]
    exact noSel_spec hsel
  intro perm
  induction perm with
  | nil =>
    intro listed a w hok hS h
    simp only [okP, List.isEmpty_iff] at hok
    exact ⟨hok, h⟩
  | cons p r ih =>
    intro listed a w hok hS h
    obtain ⟨i, q⟩ := p
    cases q with
    | true =>
      simp only [okP, quietOk, Bool.and_eq_true, Bool.not_eq_true'] at hok
      obtain ⟨⟨⟨⟨hlt, hun⟩, hdep⟩, hoth⟩, hrest⟩ := hok
      have hlt : i < ops.size := Nat.le_of_ble_eq_true hlt
      have hio : ops[i]? = some (nth ops.toList i) := by
        have := nth_get ops.toList i (by simpa using hlt)
        simpa using this
      obtain ⟨v, hs, hrest2⟩ := h
      simp only [List.length_cons]
      refine wpAnyH_firstQ hio (Region.noSelect_spec hns) (fun c a w => hQ c a _ v w) r.length listed a w ?_ ?_ (by unfold YieldsQ; rw [wantedD_eq hds]; exact hs) hS ?_
      · intro j oj hoj hji hunj hno
        have hl := othersOk_spec hoth j oj (by simpa using hoj) (by omega) (by simpa using hunj)
        rcases hl with h1 | h1
        · obtain ⟨e, he, hb⟩ := waitsFor_iff.1 h1
          exact absurd hb.2 (hno e (by simpa using he) hb.1)
        · exact h1
      · rw [mem_ready]
        exact ⟨hun, _, hio, fun e he hb => depsIn_spec hdep e (by simpa using he) hb⟩
      · exact ih _ _ _ hrest hS hrest2
    | false =>
      simp only [okP, Bool.and_eq_true] at hok
      obtain ⟨⟨hlt, hrd⟩, hrest⟩ := hok
      have hlt : i < ops.size := Nat.le_of_ble_eq_true hlt
      have hio : ops[i]? = some (nth ops.toList i) := by
        have := nth_get ops.toList i (by simpa using hlt)
        simpa using this
      have hrd2 : Region.ready .any ops listed = [i] := by
        revert hrd
        cases hr : Region.ready .any ops listed with
        | nil => intro h; cases h
        | cons x l =>
          cases l with
          | nil => intro h; simp at h; rw [h]
          | cons y l => intro h; cases h
      simp only [pick, SeqP] at h
      refine ⟨fun h0 => (by rw [hrd2] at h0; cases h0), fun j hj => ?_⟩
      rw [hrd2] at hj
      obtain rfl : j = i := by simpa using hj
      unfold wpOp
      simp only [hio]
      rw [wantedD_eq hds]
      split
      · rename_i hw
        rw [if_pos hw] at h
        exact .inl (Oper.wp_mono (fun a w h => ⟨h.1, ih _ _ _ hrest h.1 h.2⟩) h)
      · rename_i hw
        rw [if_neg hw] at h
        exact ⟨h.1, ih _ _ _ hrest h.1 h.2⟩

/-- THE RULE. -/
theorem wp_region_p {id : Nat} {a : Act} {w : World} (perm : List (Nat × Bool)) (S : World → Prop) (hm : P.follows .mixedOrders = true) (hlen : perm.length = ops.size)
    (hsel : noSel ops.toList = true) (hok : okP ops perm (upto ops.size 0) = true) (hS : S w.drew) {ds : List (Option Tmp)} (hds : ops.toList.map (·.dst) = ds)
    (h : ∀ (K : Act → World → Prop) (R : Exit → Act → World → Prop) (T : World → Prop), (∀ a w, T w → Q .normal a w → K a w) → (∀ w, T w → S w) → (∀ w, S w → T w) → SeqP P ds K R T (pick ops.toList perm) a w.drew) :
    (Code.region id ops true).wp P Q a w := by
  refine wp_region_noPanic (wp_region_held (S := S) hm ?_)
  have h1 := wpAnyH_P (P := P) (S := S) (Q := NoPanic Q) hds hsel (fun _ _ _ _ _ h => h) perm (upto ops.size 0) a w.drew hok hS (h _ _ S (fun _ _ _ h => h) (fun _ h => h) (fun _ h => h))
  rw [hlen] at h1
  have h3 : upto ops.size 0 = Array.replicate ops.size false := by
    apply Array.ext
    · simp [upto]
    · intro j _ _; simp [upto]
  rw [h3] at h1
  exact h1

variable {K : Act → World → Prop} {R : Exit → Act → World → Prop} {T : World → Prop} {ds : List (Option Tmp)} {o : Oper} {r : List (Bool × Oper)} {a : Act} {w : World} {v : Value}
theorem SeqP.pure (hw : wantedD ds o a.tmps = true) (h : ∀ w, T w → (execOp a.eval o).run P w = .ok (.value v) w)
    (hr : SeqP P ds K R T r (a.put o.dst v) w) : SeqP P ds K R T ((true, o) :: r) a w :=
  ⟨v, .inl ⟨hw, fun w hS => by unfold Gives; rw [h w hS]; exact ⟨rfl, rfl⟩⟩, hr⟩
theorem SeqP.call {f : FuncId} {args : Array Value} {c : Call} (_hop : o.op = .call c) (hw : wantedD ds o a.tmps = true)
    (h : ∀ w, T w → (execOp a.eval o).run P w = .ok (.enter f args) w) (hc : ∀ w, T w → Calls P f args w fun e w' => e = .returned v ∧ w' = w)
    (hr : SeqP P ds K R T r (a.put o.dst v) w) : SeqP P ds K R T ((true, o) :: r) a w :=
  ⟨v, .inl ⟨hw, fun w hS => by unfold Gives; rw [h w hS]; exact hc w hS⟩, hr⟩
theorem SeqP.skip (hw : wantedD ds o a.tmps = false) (hr : SeqP P ds K R T r (a.put o.dst undef) w) : SeqP P ds K R T ((true, o) :: r) a w :=
  ⟨undef, .inr ⟨hw, rfl⟩, hr⟩
theorem SeqP.skip_eff (hw : wantedD ds o a.tmps = false) (hS : T w) (hr : SeqP P ds K R T r (a.put o.dst undef) w) : SeqP P ds K R T ((false, o) :: r) a w := by
  unfold SeqP
  rw [if_neg (by rw [hw]; simp)]
  exact ⟨hS, hr⟩
theorem SeqP.split {b : Bool} {p : Bool} {g : Nat} {want : Bool} (_hg : o.guard = some (g, want)) (_hy : (match (ds[g]?.join).bind (a.tmps[·]?) with | some (.bool b) => some b | _ => none) = some p)
    (h1 : p = true → SeqP P ds K R T ((b, o) :: r) a w) (h2 : p = false → SeqP P ds K R T ((b, o) :: r) a w) : SeqP P ds K R T ((b, o) :: r) a w := by
  cases p
  · exact h2 rfl
  · exact h1 rfl
theorem SeqP.eff (hw : wantedD ds o a.tmps = true) (h : ∀ K' : Act → World → Prop, (∀ a' w', T w' → SeqP P ds K R T r a' w' → K' a' w') → o.wp P a w K' R) : SeqP P ds K R T ((false, o) :: r) a w := by
  unfold SeqP
  rw [if_pos hw]
  exact h _ fun a' w' h1 h2 => ⟨h1, h2⟩
theorem SeqP.aggbin {op : BinOp} {t : TypeId} {x y : Operand} {xs ys : Array Value} (hop : o.op = .binOp op t x y t) (hm : P.eqGuardType P.depth t = false) (hw : wantedD ds o a.tmps = true)
    (hx : a.eval x = .agg xs) (hy : a.eval y = .agg ys) (hrun : ∀ w, (binOp op t (.agg xs) (.agg ys)).run P w = .ok v w) (hr : SeqP P ds K R T r (a.put o.dst v) w) : SeqP P ds K R T ((true, o) :: r) a w := by
  refine SeqP.pure hw (fun w _ => ?_) hr
  simp only [execOp, hop, hx, hy, Sem.run_bind, run_eqGuard_agg w op t x y xs ys hm, Result.andThen_ok, hrun]
  rfl
theorem SeqP.nil (h : K a w) : SeqP P ds K R T [] a w := h
end
end Go.Sq
