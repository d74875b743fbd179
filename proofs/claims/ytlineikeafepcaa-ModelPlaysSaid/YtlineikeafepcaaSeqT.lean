/-
  A region that draws its order, by a tree of schedules: where one, two or three operations may come next.
-/
import Derived.Test.YtlineikeafepcaaSeqP2
set_option linter.unusedSimpArgs false
set_option linter.unusedVariables false
set_option maxRecDepth 100000
namespace Go.Sq
open Go

inductive Sch (α : Type) where
  | done : Sch α
  | quiet : α → Sch α → Sch α
  | one : α → Sch α → Sch α
  | two : α → α → Sch α → Sch α → Sch α
  | three : α → α → α → Sch α → Sch α → Sch α → Sch α

def Sch.size {α : Type} : Sch α → Nat
  | .done => 0
  | .quiet _ t => t.size + 1
  | .one _ t => t.size + 1
  | .two _ _ t _ => t.size + 1
  | .three _ _ _ t _ _ => t.size + 1

def Sch.fill (l : List Oper) : Sch Nat → Sch Oper
  | .done => .done
  | .quiet i t => .quiet (nth l i) (t.fill l)
  | .one i t => .one (nth l i) (t.fill l)
  | .two i j t u => .two (nth l i) (nth l j) (t.fill l) (u.fill l)
  | .three i j k t u v => .three (nth l i) (nth l j) (nth l k) (t.fill l) (u.fill l) (v.fill l)

def sameL : List Nat → List Nat → Bool
  | [], [] => true
  | a :: l, b :: m => Nat.beq a b && sameL l m
  | _, _ => false
theorem sameL_spec : ∀ {l m : List Nat}, sameL l m = true → l = m
  | [], [], _ => rfl
  | a :: l, b :: m, h => by
    simp only [sameL, Bool.and_eq_true] at h
    rw [Nat.eq_of_beq_eq_true h.1, sameL_spec h.2]
  | [], _ :: _, h => by cases h
  | _ :: _, [], h => by cases h

def okT (ops : Array Oper) : Sch Nat → Array Bool → Bool
  | .done, l => (Region.ready .any ops l).isEmpty
  | .quiet i t, l => quietOk ops i l && okT ops t (l.setIfInBounds i true)
  | .one i t, l => sameL (Region.ready .any ops l) [i] && Nat.blt i ops.size && okT ops t (l.setIfInBounds i true)
  | .two i j t u, l => sameL (Region.ready .any ops l) [i, j] && (Nat.blt i ops.size && okT ops t (l.setIfInBounds i true)) && (Nat.blt j ops.size && okT ops u (l.setIfInBounds j true)) && Nat.beq u.size t.size
  | .three i j k t u v, l => sameL (Region.ready .any ops l) [i, j, k] && (Nat.blt i ops.size && okT ops t (l.setIfInBounds i true)) && (Nat.blt j ops.size && okT ops u (l.setIfInBounds j true)) &&
      (Nat.blt k ops.size && okT ops v (l.setIfInBounds k true)) && Nat.beq u.size t.size && Nat.beq v.size t.size

section
variable {P : Program} {ops : Array Oper} {Q : Exit → Act → World → Prop} {S : World → Prop}

/-- An operation with an effect, and what follows. -/
def EffT (P : Program) (ds : List (Option Tmp)) (R : Exit → Act → World → Prop) (S : World → Prop) (o : Oper) (W : Act → World → Prop) (a : Act) (w : World) : Prop :=
  if wantedD ds o a.tmps then o.wp P a w (fun a' w' => S w' ∧ W a' w') R else S w ∧ W (a.put o.dst undef) w

/-- The walk by a tree. -/
def SeqT (P : Program) (ds : List (Option Tmp)) (K : Act → World → Prop) (R : Exit → Act → World → Prop) (S : World → Prop) : Sch Oper → Act → World → Prop
  | .done, a, w => K a w
  | .quiet o t, a, w => ∃ v, ((wantedD ds o a.tmps = true ∧ ∀ w, S w → Gives P (fun w' => w' = w) o v a.eval w) ∨ (wantedD ds o a.tmps = false ∧ v = undef)) ∧ SeqT P ds K R S t (a.put o.dst v) w
  | .one o t, a, w => EffT P ds R S o (SeqT P ds K R S t) a w
  | .two o o2 t u, a, w => EffT P ds R S o (SeqT P ds K R S t) a w ∧ EffT P ds R S o2 (SeqT P ds K R S u) a w
  | .three o o2 o3 t u v, a, w => EffT P ds R S o (SeqT P ds K R S t) a w ∧ EffT P ds R S o2 (SeqT P ds K R S u) a w ∧ EffT P ds R S o3 (SeqT P ds K R S v) a w

theorem eff_step {ds : List (Option Tmp)} (hds : ops.toList.map (·.dst) = ds) {n : Nat} (hlt : Nat.blt n ops.size = true) {m : Nat} {l : Array Bool} {W : Act → World → Prop}
    (ih : ∀ a w, S w → W a w → wpAnyH P .any ops Q S m l a w) {a : Act} {w : World} (h : EffT P ds Q S (nth ops.toList n) W a w) :
    wpOp P ops Q n (fun a w => S w ∧ wpAnyH P .any ops Q S m l a w) a w := by
  have hlt : n < ops.size := Nat.le_of_ble_eq_true hlt
  have hio : ops[n]? = some (nth ops.toList n) := by
    have := nth_get ops.toList n (by simpa using hlt)
    simpa using this
  unfold EffT at h
  unfold wpOp
  simp only [hio]
  rw [wantedD_eq hds]
  split
  · rename_i hw
    rw [if_pos hw] at h
    exact .inl (Oper.wp_mono (fun a w h => ⟨h.1, ih _ _ h.1 h.2⟩) h)
  · rename_i hw
    rw [if_neg hw] at h
    exact ⟨h.1, ih _ _ h.1 h.2⟩

theorem wpAnyH_T {ds : List (Option Tmp)} (hds : ops.toList.map (·.dst) = ds) (hsel : noSel ops.toList = true) (hQ : ∀ c a d v w, Q (.panic c) (a.put d v) w → Q (.panic c) a w) :
    ∀ (t : Sch Nat) (listed : Array Bool) (a : Act) (w : World), okT ops t listed = true → S w → SeqT P ds (Q .normal) Q S (t.fill ops.toList) a w → wpAnyH P .any ops Q S t.size listed a w := by
  have hns : Region.noSelect ops = true := by
    unfold Region.noSelect
    rw [← Array.all_toList, List.all_eq_true]
    exact noSel_spec hsel
  intro t
  induction t with
  | done =>
    intro listed a w hok hS h
    simp only [okT, List.isEmpty_iff] at hok
    exact ⟨hok, h⟩
  | quiet i t ih =>
    intro listed a w hok hS h
    simp only [okT, quietOk, Bool.and_eq_true, Bool.not_eq_true'] at hok
    obtain ⟨⟨⟨⟨hlt, hun⟩, hdep⟩, hoth⟩, hrest⟩ := hok
    have hlt : i < ops.size := Nat.le_of_ble_eq_true hlt
    have hio : ops[i]? = some (nth ops.toList i) := by
      have := nth_get ops.toList i (by simpa using hlt)
      simpa using this
    obtain ⟨v, hs, hrest2⟩ := h
    unfold Sch.size
    refine wpAnyH_firstQ hio (Region.noSelect_spec hns) (fun c a w => hQ c a _ v w) t.size listed a w ?_ ?_ (by unfold YieldsQ; rw [wantedD_eq hds]; exact hs) hS ?_
    · intro j oj hoj hji hunj hno
      have hl := othersOk_spec hoth j oj (by simpa using hoj) (by omega) (by simpa using hunj)
      rcases hl with h1 | h1
      · obtain ⟨e, he, hb⟩ := waitsFor_iff.1 h1
        exact absurd hb.2 (hno e (by simpa using he) hb.1)
      · exact h1
    · rw [mem_ready]
      exact ⟨hun, _, hio, fun e he hb => depsIn_spec hdep e (by simpa using he) hb⟩
    · exact ih _ _ _ hrest hS hrest2
  | one i t ih =>
    intro listed a w hok hS h
    simp only [okT, Bool.and_eq_true] at hok
    obtain ⟨⟨hr, hlt⟩, hrest⟩ := hok
    have hr := sameL_spec hr
    unfold Sch.size
    refine ⟨fun h0 => (by rw [hr] at h0; cases h0), fun n hn => ?_⟩
    rw [hr] at hn
    obtain rfl : n = i := by simpa using hn
    exact eff_step hds hlt (fun a w hS h => ih _ a w hrest hS h) h
  | two i j t u iht ihu =>
    intro listed a w hok hS h
    simp only [okT, Bool.and_eq_true] at hok
    obtain ⟨⟨⟨hr, hlt, hrest⟩, hlt2, hrest2⟩, he⟩ := hok
    have hr := sameL_spec hr
    have he := Nat.eq_of_beq_eq_true he
    unfold Sch.size
    refine ⟨fun h0 => (by rw [hr] at h0; cases h0), fun n hn => ?_⟩
    rw [hr] at hn
    rcases List.mem_cons.1 hn with rfl | hn
    · exact eff_step hds hlt (fun a w hS h => iht _ a w hrest hS h) h.1
    · obtain rfl : n = j := by simpa using hn
      exact eff_step hds hlt2 (fun a w hS h => he ▸ ihu _ a w hrest2 hS h) h.2
  | three i j k t u v iht ihu ihv =>
    intro listed a w hok hS h
    simp only [okT, Bool.and_eq_true] at hok
    obtain ⟨⟨⟨⟨⟨hr, hlt, hrest⟩, hlt2, hrest2⟩, hlt3, hrest3⟩, he⟩, he3⟩ := hok
    have hr := sameL_spec hr
    have he := Nat.eq_of_beq_eq_true he
    have he3 := Nat.eq_of_beq_eq_true he3
    unfold Sch.size
    refine ⟨fun h0 => (by rw [hr] at h0; cases h0), fun n hn => ?_⟩
    rw [hr] at hn
    rcases List.mem_cons.1 hn with rfl | hn
    · exact eff_step hds hlt (fun a w hS h => iht _ a w hrest hS h) h.1
    · rcases List.mem_cons.1 hn with rfl | hn
      · exact eff_step hds hlt2 (fun a w hS h => he ▸ ihu _ a w hrest2 hS h) h.2.1
      · obtain rfl : n = k := by simpa using hn
        exact eff_step hds hlt3 (fun a w hS h => he3 ▸ ihv _ a w hrest3 hS h) h.2.2

/-- THE RULE. -/
theorem wp_region_t {id : Nat} {a : Act} {w : World} (t : Sch Nat) (S : World → Prop) (hm : P.follows .mixedOrders = true) (hlen : t.size = ops.size)
    (hsel : noSel ops.toList = true) (hok : okT ops t (upto ops.size 0) = true) (hS : S w.drew) {ds : List (Option Tmp)} (hds : ops.toList.map (·.dst) = ds)
    (h : ∀ (K : Act → World → Prop) (R : Exit → Act → World → Prop) (T : World → Prop), (∀ a w, T w → Q .normal a w → K a w) → (∀ w, T w → S w) → (∀ w, S w → T w) → SeqT P ds K R T (t.fill ops.toList) a w.drew) :
    (Code.region id ops true).wp P Q a w := by
  refine wp_region_noPanic (wp_region_held (S := S) hm ?_)
  have h1 := wpAnyH_T (P := P) (S := S) (Q := NoPanic Q) hds hsel (fun _ _ _ _ _ h => h) t (upto ops.size 0) a w.drew hok hS (h _ _ S (fun _ _ _ h => h) (fun _ h => h) (fun _ h => h))
  rw [hlen] at h1
  have h3 : upto ops.size 0 = Array.replicate ops.size false := by
    apply Array.ext
    · simp [upto]
    · intro j _ _; simp [upto]
  rw [h3] at h1
  exact h1

variable {K : Act → World → Prop} {R : Exit → Act → World → Prop} {T : World → Prop} {ds : List (Option Tmp)} {o o2 o3 : Oper} {t u s : Sch Oper} {a : Act} {w : World} {v : Value}
theorem SeqT.pure (hw : wantedD ds o a.tmps = true) (h : ∀ w, T w → (execOp a.eval o).run P w = .ok (.value v) w)
    (hr : SeqT P ds K R T t (a.put o.dst v) w) : SeqT P ds K R T (.quiet o t) a w :=
  ⟨v, .inl ⟨hw, fun w hS => by unfold Gives; rw [h w hS]; exact ⟨rfl, rfl⟩⟩, hr⟩
theorem SeqT.call {f : FuncId} {args : Array Value} {c : Call} (_hop : o.op = .call c) (hw : wantedD ds o a.tmps = true)
    (h : ∀ w, T w → (execOp a.eval o).run P w = .ok (.enter f args) w) (hc : ∀ w, T w → Calls P f args w fun e w' => e = .returned v ∧ w' = w)
    (hr : SeqT P ds K R T t (a.put o.dst v) w) : SeqT P ds K R T (.quiet o t) a w :=
  ⟨v, .inl ⟨hw, fun w hS => by unfold Gives; rw [h w hS]; exact hc w hS⟩, hr⟩
theorem SeqT.skip (hw : wantedD ds o a.tmps = false) (hr : SeqT P ds K R T t (a.put o.dst undef) w) : SeqT P ds K R T (.quiet o t) a w :=
  ⟨undef, .inr ⟨hw, rfl⟩, hr⟩
theorem SeqT.aggbin {op : BinOp} {ty : TypeId} {x y : Operand} {xs ys : Array Value} (hop : o.op = .binOp op ty x y ty) (hm : P.eqGuardType P.depth ty = false) (hw : wantedD ds o a.tmps = true)
    (hx : a.eval x = .agg xs) (hy : a.eval y = .agg ys) (hrun : ∀ w, (binOp op ty (.agg xs) (.agg ys)).run P w = .ok v w) (hr : SeqT P ds K R T t (a.put o.dst v) w) : SeqT P ds K R T (.quiet o t) a w := by
  refine SeqT.pure hw (fun w _ => ?_) hr
  simp only [execOp, hop, hx, hy, Sem.run_bind, run_eqGuard_agg w op ty x y xs ys hm, Result.andThen_ok, hrun]
  rfl
theorem SeqT.eff1 (hw : wantedD ds o a.tmps = true) (h : ∀ K' : Act → World → Prop, (∀ a' w', T w' → SeqT P ds K R T t a' w' → K' a' w') → o.wp P a w K' R) : SeqT P ds K R T (.one o t) a w := by
  unfold SeqT EffT
  rw [if_pos hw]
  exact h _ fun a' w' h1 h2 => ⟨h1, h2⟩
theorem EffT.go {W : Act → World → Prop} (hw : wantedD ds o a.tmps = true) (h : ∀ K' : Act → World → Prop, (∀ a' w', T w' → W a' w' → K' a' w') → o.wp P a w K' R) : EffT P ds R T o W a w := by
  unfold EffT
  rw [if_pos hw]
  exact h _ fun a' w' h1 h2 => ⟨h1, h2⟩
theorem EffT.skip {W : Act → World → Prop} (hw : wantedD ds o a.tmps = false) (hS : T w) (hr : W (a.put o.dst undef) w) : EffT P ds R T o W a w := by
  unfold EffT
  rw [if_neg (by rw [hw]; simp)]
  exact ⟨hS, hr⟩
/-- The operation is the one whose temporary is n. -/
theorem EffT.is {W : Act → World → Prop} (n : Option Tmp) (_hd : o.dst = n) (h : EffT P ds R T o W a w) : EffT P ds R T o W a w := h
theorem SeqT.one (h : EffT P ds R T o (SeqT P ds K R T t) a w) : SeqT P ds K R T (.one o t) a w := h
theorem SeqT.two (h : EffT P ds R T o (SeqT P ds K R T t) a w) (h2 : EffT P ds R T o2 (SeqT P ds K R T u) a w) : SeqT P ds K R T (.two o o2 t u) a w := ⟨h, h2⟩
theorem SeqT.three (h : EffT P ds R T o (SeqT P ds K R T t) a w) (h2 : EffT P ds R T o2 (SeqT P ds K R T u) a w) (h3 : EffT P ds R T o3 (SeqT P ds K R T s) a w) : SeqT P ds K R T (.three o o2 o3 t u s) a w := ⟨h, h2, h3⟩
theorem SeqT.done (h : K a w) : SeqT P ds K R T .done a w := h
end
end Go.Sq
