/-
  A region that draws its order, by a tree of schedules: where one, two or three operations may come next.
  A store into a block that is known whole, and what it leaves: only that block has turned.
  The walk over 'register.Apply'.
  The walk over 'register.May'.
  The walk over chapter 15's 'SameRegister', and 'great'.
  Registers that are held in variables, and what chapter 15's statements call beside register itself.
  A map[int]V whose values are held as they are: G says what it maps each number to.
  The walks over the functions of a book of leases.
  The walks over Release and New of a book of leases, and over the functions on a book that is none.
  The walk over 'lives' of the statements on leases.
  The walks over the functions of the document's book of leases.
  The walks over Grant and Release of the document's book of leases.
  The program's book and the document's: what they have alike.
-/
import Derived.Maps.OwnSet
import Derived.Test.YtdphfhenjndkkaaProg
import Derived.WalkKit
import Derived.WalkSpells
import Derived.WalkLawsBesides
import Derived.RowKit3
import Derived.Lib.Hide
import Derived.Carry
import Derived.Test.YtdphfhenjndkkaaReplicasTakeK1
import Derived.Test.YtdphfhenjndkkaaReplicasTakeK2
set_option linter.unusedSimpArgs false
set_option linter.unusedVariables false
set_option maxRecDepth 100000
namespace Go.Sq
open Go

inductive Sch (α : Type) where
  | done : Sch α
  | quiet : α → Sch α → Sch α
  | one : α → Sch α → Sch α
  | two : α → α → Sch α → Sch α → Sch α
  | three : α → α → α → Sch α → Sch α → Sch α → Sch α

def Sch.size {α : Type} : Sch α → Nat
  | .done => 0
  | .quiet _ t => t.size + 1
  | .one _ t => t.size + 1
  | .two _ _ t _ => t.size + 1
  | .three _ _ _ t _ _ => t.size + 1

def Sch.fill (l : List Oper) : Sch Nat → Sch Oper
  | .done => .done
  | .quiet i t => .quiet (nth l i) (t.fill l)
  | .one i t => .one (nth l i) (t.fill l)
  | .two i j t u => .two (nth l i) (nth l j) (t.fill l) (u.fill l)
  | .three i j k t u v => .three (nth l i) (nth l j) (nth l k) (t.fill l) (u.fill l) (v.fill l)

def sameL : List Nat → List Nat → Bool
  | [], [] => true
  | a :: l, b :: m => Nat.beq a b && sameL l m
  | _, _ => false
theorem sameL_spec : ∀ {l m : List Nat}, sameL l m = true → l = m
  | [], [], _ => rfl
  | a :: l, b :: m, h => by
    simp only [sameL, Bool.and_eq_true] at h
    rw [Nat.eq_of_beq_eq_true h.1, sameL_spec h.2]
  | [], _ :: _, h => by cases h
  | _ :: _, [], h => by cases h

def okT (ops : Array Oper) : Sch Nat → Array Bool → Bool
  | .done, l => (Region.ready .any ops l).isEmpty
  | .quiet i t, l => quietOk ops i l && okT ops t (l.setIfInBounds i true)
  | .one i t, l => sameL (Region.ready .any ops l) [i] && Nat.blt i ops.size && okT ops t (l.setIfInBounds i true)
  | .two i j t u, l => sameL (Region.ready .any ops l) [i, j] && (Nat.blt i ops.size && okT ops t (l.setIfInBounds i true)) && (Nat.blt j ops.size && okT ops u (l.setIfInBounds j true)) && Nat.beq u.size t.size
  | .three i j k t u v, l => sameL (Region.ready .any ops l) [i, j, k] && (Nat.blt i ops.size && okT ops t (l.setIfInBounds i true)) && (Nat.blt j ops.size && okT ops u (l.setIfInBounds j true)) &&
      (Nat.blt k ops.size && okT ops v (l.setIfInBounds k true)) && Nat.beq u.size t.size && Nat.beq v.size t.size

section
variable {P : Program} {ops : Array Oper} {Q : Exit → Act → World → Prop} {S : World → Prop}

/-- An operation with an effect, and what follows. -/
def EffT (P : Program) (ds : List (Option Tmp)) (R : Exit → Act → World → Prop) (S : World → Prop) (o : Oper) (W : Act → World → Prop) (a : Act) (w : World) : Prop :=
  if wantedD ds o a.tmps then o.wp P a w (fun a' w' => S w' ∧ W a' w') R else S w ∧ W (a.put o.dst undef) w

/-- The walk by a tree. -/
def SeqT (P : Program) (ds : List (Option Tmp)) (K : Act → World → Prop) (R : Exit → Act → World → Prop) (S : World → Prop) : Sch Oper → Act → World → Prop
  | .done, a, w => K a w
  | .quiet o t, a, w => ∃ v, ((wantedD ds o a.tmps = true ∧ ∀ w, S w → Gives P (fun w' => w' = w) o v a.eval w) ∨ (wantedD ds o a.tmps = false ∧ v = undef)) ∧ SeqT P ds K R S t (a.put o.dst v) w
  | .one o t, a, w => EffT P ds R S o (SeqT P ds K R S t) a w
  | .two o o2 t u, a, w => EffT P ds R S o (SeqT P ds K R S t) a w ∧ EffT P ds R S o2 (SeqT P ds K R S u) a w
  | .three o o2 o3 t u v, a, w => EffT P ds R S o (SeqT P ds K R S t) a w ∧ EffT P ds R S o2 (SeqT P ds K R S u) a w ∧ EffT P ds R S o3 (SeqT P ds K R S v) a w

theorem eff_step {ds : List (Option Tmp)} (hds : ops.toList.map (·.dst) = ds) {n : Nat} (hlt : Nat.blt n ops.size = true) {m : Nat} {l : Array Bool} {W : Act → World → Prop}
    (ih : ∀ a w, S w → W a w → wpAnyH P .any ops Q S m l a w) {a : Act} {w : World} (h : EffT P ds Q S (nth ops.toList n) W a w) :
    wpOp P ops Q n (fun a w => S w ∧ wpAnyH P .any ops Q S m l a w) a w := by
  have hlt : n < ops.size := Nat.le_of_ble_eq_true hlt
  have hio : ops[n]? = some (nth ops.toList n) := by
    have := nth_get ops.toList n (by simpa using hlt)
    simpa using this
  unfold EffT at h
  unfold wpOp
  simp only [hio]
  rw [wantedD_eq hds]
  split
  · rename_i hw
    rw [if_pos hw] at h
    exact .inl (Oper.wp_mono (fun a w h => ⟨h.1, ih _ _ h.1 h.2⟩) h)
  · rename_i hw
    rw [if_neg hw] at h
    exact ⟨h.1, ih _ _ h.1 h.2⟩

theorem wpAnyH_T {ds : List (Option Tmp)} (hds : ops.toList.map (·.dst) = ds) (hsel : noSel ops.toList = true) (hQ : ∀ c a d v w, Q (.panic c) (a.put d v) w → Q (.panic c) a w) :
    ∀ (t : Sch Nat) (listed : Array Bool) (a : Act) (w : World), okT ops t listed = true → S w → SeqT P ds (Q .normal) Q S (t.fill ops.toList) a w → wpAnyH P .any ops Q S t.size listed a w := by
  have hns : Region.noSelect ops = true := by
    unfold Region.noSelect
    rw [← Array.all_toList, List.all_eq_true]
    exact noSel_spec hsel
  intro t
  induction t with
  | done =>
    intro listed a w hok hS h
    simp only [okT, List.isEmpty_iff] at hok
    exact ⟨hok, h⟩
  | quiet i t ih =>
    intro listed a w hok hS h
    simp only [okT, quietOk, Bool.and_eq_true, Bool.not_eq_true'] at hok
    obtain ⟨⟨⟨⟨hlt, hun⟩, hdep⟩, hoth⟩, hrest⟩ := hok
    have hlt : i < ops.size := Nat.le_of_ble_eq_true hlt
    have hio : ops[i]? = some (nth ops.toList i) := by
      have := nth_get ops.toList i (by simpa using hlt)
      simpa using this
    obtain ⟨v, hs, hrest2⟩ := h
    unfold Sch.size
    refine wpAnyH_firstQ hio (Region.noSelect_spec hns) (fun c a w => hQ c a _ v w) t.size listed a w ?_ ?_ (by unfold YieldsQ; rw [wantedD_eq hds]; exact hs) hS ?_
    · intro j oj hoj hji hunj hno
      have hl := othersOk_spec hoth j oj (by simpa using hoj) (by omega) (by simpa using hunj)
      rcases hl with h1 | h1
      · obtain ⟨e, he, hb⟩ := waitsFor_iff.1 h1
        exact absurd hb.2 (hno e (by simpa using he) hb.1)
      · exact h1
    · rw [mem_ready]
      exact ⟨hun, _, hio, fun e he hb => depsIn_spec hdep e (by simpa using he) hb⟩
    · exact ih _ _ _ hrest hS hrest2
  | one i t ih =>
    intro listed a w hok hS h
    simp only [okT, Bool.and_eq_true] at hok
    obtain ⟨⟨hr, hlt⟩, hrest⟩ := hok
    have hr := sameL_spec hr
    unfold Sch.size
    refine ⟨fun h0 => (by rw [hr] at h0; cases h0), fun n hn => ?_⟩
    rw [hr] at hn
    obtain rfl : n = i := by simpa using hn
    exact eff_step hds hlt (fun a w hS h => ih _ a w hrest hS h) h
  | two i j t u iht ihu =>
    intro listed a w hok hS h
    simp only [okT, Bool.and_eq_true] at hok
    obtain ⟨⟨⟨hr, hlt, hrest⟩, hlt2, hrest2⟩, he⟩ := hok
    have hr := sameL_spec hr
    have he := Nat.eq_of_beq_eq_true he
    unfold Sch.size
    refine ⟨fun h0 => (by rw [hr] at h0; cases h0), fun n hn => ?_⟩
    rw [hr] at hn
    rcases List.mem_cons.1 hn with rfl | hn
    · exact eff_step hds hlt (fun a w hS h => iht _ a w hrest hS h) h.1
    · obtain rfl : n = j := by simpa using hn
      exact eff_step hds hlt2 (fun a w hS h => he ▸ ihu _ a w hrest2 hS h) h.2
  | three i j k t u v iht ihu ihv =>
    intro listed a w hok hS h
    simp only [okT, Bool.and_eq_true] at hok
    obtain ⟨⟨⟨⟨⟨hr, hlt, hrest⟩, hlt2, hrest2⟩, hlt3, hrest3⟩, he⟩, he3⟩ := hok
    have hr := sameL_spec hr
    have he := Nat.eq_of_beq_eq_true he
    have he3 := Nat.eq_of_beq_eq_true he3
    unfold Sch.size
    refine ⟨fun h0 => (by rw [hr] at h0; cases h0), fun n hn => ?_⟩
    rw [hr] at hn
    rcases List.mem_cons.1 hn with rfl | hn
    · exact eff_step hds hlt (fun a w hS h => iht _ a w hrest hS h) h.1
    · rcases List.mem_cons.1 hn with rfl | hn
      · exact eff_step hds hlt2 (fun a w hS h => he ▸ ihu _ a w hrest2 hS h) h.2.1
      · obtain rfl : n = k := by simpa using hn
        exact eff_step hds hlt3 (fun a w hS h => he3 ▸ ihv _ a w hrest3 hS h) h.2.2

/-- THE RULE. -/
theorem wp_region_t {id : Nat} {a : Act} {w : World} (t : Sch Nat) (S : World → Prop) (hm : P.follows .mixedOrders = true) (hlen : t.size = ops.size)
    (hsel : noSel ops.toList = true) (hok : okT ops t (upto ops.size 0) = true) (hS : S w.drew) {ds : List (Option Tmp)} (hds : ops.toList.map (·.dst) = ds)
    (h : ∀ (K : Act → World → Prop) (R : Exit → Act → World → Prop) (T : World → Prop), (∀ a w, T w → Q .normal a w → K a w) → (∀ w, T w → S w) → (∀ w, S w → T w) → SeqT P ds K R T (t.fill ops.toList) a w.drew) :
    (Code.region id ops true).wp P Q a w := by
  refine wp_region_noPanic (wp_region_held (S := S) hm ?_)
  have h1 := wpAnyH_T (P := P) (S := S) (Q := NoPanic Q) hds hsel (fun _ _ _ _ _ h => h) t (upto ops.size 0) a w.drew hok hS (h _ _ S (fun _ _ _ h => h) (fun _ h => h) (fun _ h => h))
  rw [hlen] at h1
  have h3 : upto ops.size 0 = Array.replicate ops.size false := by
    apply Array.ext
    · simp [upto]
    · intro j _ _; simp [upto]
  rw [h3] at h1
  exact h1

variable {K : Act → World → Prop} {R : Exit → Act → World → Prop} {T : World → Prop} {ds : List (Option Tmp)} {o o2 o3 : Oper} {t u s : Sch Oper} {a : Act} {w : World} {v : Value}
theorem SeqT.pure (hw : wantedD ds o a.tmps = true) (h : ∀ w, T w → (execOp a.eval o).run P w = .ok (.value v) w)
    (hr : SeqT P ds K R T t (a.put o.dst v) w) : SeqT P ds K R T (.quiet o t) a w :=
  ⟨v, .inl ⟨hw, fun w hS => by unfold Gives; rw [h w hS]; exact ⟨rfl, rfl⟩⟩, hr⟩
theorem SeqT.call {f : FuncId} {args : Array Value} {c : Call} (_hop : o.op = .call c) (hw : wantedD ds o a.tmps = true)
    (h : ∀ w, T w → (execOp a.eval o).run P w = .ok (.enter f args) w) (hc : ∀ w, T w → Calls P f args w fun e w' => e = .returned v ∧ w' = w)
    (hr : SeqT P ds K R T t (a.put o.dst v) w) : SeqT P ds K R T (.quiet o t) a w :=
  ⟨v, .inl ⟨hw, fun w hS => by unfold Gives; rw [h w hS]; exact hc w hS⟩, hr⟩
theorem SeqT.skip (hw : wantedD ds o a.tmps = false) (hr : SeqT P ds K R T t (a.put o.dst undef) w) : SeqT P ds K R T (.quiet o t) a w :=
  ⟨undef, .inr ⟨hw, rfl⟩, hr⟩
theorem SeqT.aggbin {op : BinOp} {ty : TypeId} {x y : Operand} {xs ys : Array Value} (hop : o.op = .binOp op ty x y ty) (hm : P.eqGuardType P.depth ty = false) (hw : wantedD ds o a.tmps = true)
    (hx : a.eval x = .agg xs) (hy : a.eval y = .agg ys) (hrun : ∀ w, (binOp op ty (.agg xs) (.agg ys)).run P w = .ok v w) (hr : SeqT P ds K R T t (a.put o.dst v) w) : SeqT P ds K R T (.quiet o t) a w := by
  refine SeqT.pure hw (fun w _ => ?_) hr
  simp only [execOp, hop, hx, hy, Sem.run_bind, run_eqGuard_agg w op ty x y xs ys hm, Result.andThen_ok, hrun]
  rfl
theorem SeqT.eff1 (hw : wantedD ds o a.tmps = true) (h : ∀ K' : Act → World → Prop, (∀ a' w', T w' → SeqT P ds K R T t a' w' → K' a' w') → o.wp P a w K' R) : SeqT P ds K R T (.one o t) a w := by
  unfold SeqT EffT
  rw [if_pos hw]
  exact h _ fun a' w' h1 h2 => ⟨h1, h2⟩
theorem EffT.go {W : Act → World → Prop} (hw : wantedD ds o a.tmps = true) (h : ∀ K' : Act → World → Prop, (∀ a' w', T w' → W a' w' → K' a' w') → o.wp P a w K' R) : EffT P ds R T o W a w := by
  unfold EffT
  rw [if_pos hw]
  exact h _ fun a' w' h1 h2 => ⟨h1, h2⟩
theorem EffT.skip {W : Act → World → Prop} (hw : wantedD ds o a.tmps = false) (hS : T w) (hr : W (a.put o.dst undef) w) : EffT P ds R T o W a w := by
  unfold EffT
  rw [if_neg (by rw [hw]; simp)]
  exact ⟨hS, hr⟩
/-- The operation is the one whose temporary is n. -/
theorem EffT.is {W : Act → World → Prop} (n : Option Tmp) (_hd : o.dst = n) (h : EffT P ds R T o W a w) : EffT P ds R T o W a w := h
theorem SeqT.one (h : EffT P ds R T o (SeqT P ds K R T t) a w) : SeqT P ds K R T (.one o t) a w := h
theorem SeqT.two (h : EffT P ds R T o (SeqT P ds K R T t) a w) (h2 : EffT P ds R T o2 (SeqT P ds K R T u) a w) : SeqT P ds K R T (.two o o2 t u) a w := ⟨h, h2⟩
theorem SeqT.three (h : EffT P ds R T o (SeqT P ds K R T t) a w) (h2 : EffT P ds R T o2 (SeqT P ds K R T u) a w) (h3 : EffT P ds R T o3 (SeqT P ds K R T s) a w) : SeqT P ds K R T (.three o o2 o3 t u s) a w := ⟨h, h2, h3⟩
theorem SeqT.done (h : K a w) : SeqT P ds K R T .done a w := h
end
end Go.Sq

set_option linter.unusedSimpArgs false
set_option linter.unusedVariables false
set_option maxRecDepth 100000
namespace Go.Wd
open Go Go.RowKit

theorem grown_setRow (w : World) (g : Nat) (l : Array Value) : w.grownBy (w.setRow g l) (some g) := ⟨rfl, rfl, rfl, by simp, fun k _ hk => setRow_other w g k l (fun e => hk (by rw [e]))⟩
theorem below_grown {B g : Nat} {w w' : World} (hg : w.grownBy w' (some g)) (hB : B ≤ g) (hw : B ≤ w.heap.size) : Below B w w' := ⟨hg.os, hg.tape, hg.output, hg.size, fun k hk => hg.block k (by omega) (by intro e; cases e; omega)⟩
theorem wpList_store_own {P : Program} {w : World} {ops : Array Oper} {rest : List Oper} {o : Oper} {a : Act} {Q : Exit → Act → World → Prop} (hgd : o.guard = none) (ty : TypeId) (x y : Operand) (ho : o.op = .store ty x y)
    (g : Nat) (cs : List Value) (hx : a.eval x = .pointer (some ⟨g, 0, none⟩)) (hy : a.eval y = .agg cs.toArray) (t : TypeId) (old : List Value) (hg : Blk w g t old)
    (hi : (P.info? ty).map (·.size) = some cs.length) (hold : old.length = cs.length) (h1 : ∀ v ∈ cs, v.oneCell' = true)
    (h : ∀ w', Blk w' g t cs → w.grownBy w' (some g) → wpList P ops Q rest (a.put o.dst undef) w') : wpList P ops Q (o :: rest) a w :=
  wpList_store_row hgd ty x y ho g cs.toArray hx hy t old.toArray hg (by simpa using hi) (by simpa using hold)
    (Array.all_eq_true_iff_forall_mem.2 (fun v hv => h1 v (by simpa using hv)))
    (h _ (hg.row cs) (grown_setRow w g _))
end Go.Wd
namespace Go.Proofs.Ytdphfhenjndkkaa
open Go Go.RowKit Go.Sq Go.Wd Go.Arch
theorem Row.logAt {w : World} {B : Nat} {sl : SlcE} {l : List Ent} (h : Row w B (.slice sl.1 sl.2.1 sl.2.2) l) : LogAt w w.heap.size sl l := by
  obtain ⟨s2, he, hl⟩ := h.log
  obtain ⟨a, b, c⟩ := sl
  obtain ⟨a2, b2, c2⟩ := s2
  cases he
  exact hl
/-- A log that lies below, or a row above, stays where only block g turns. -/
theorem LogAt.grown {w w' : World} {B g : Nat} {sl : SlcE} {l : List Ent} (h : LogAt w B sl l) (hB : B ≤ w.heap.size) (hg : w.grownBy w' (some g)) (hb : B ≤ g) : LogAt w' w'.heap.size sl l :=
  (h.below (below_grown hg hb hB)).more (Nat.le_trans hB hg.size)
end Go.Proofs.Ytdphfhenjndkkaa

set_option linter.unusedSimpArgs false
set_option linter.unusedVariables false
set_option maxRecDepth 100000
namespace Go.Proofs.Ytdphfhenjndkkaa
open Go Go.RowKit Go.Sq Go.Wd Go.Arch

/-- What Apply tells: a register and whether; its log. -/
def AppP (r : RegS) (x : RecS) (w : World) (e : Ending) (w' : World) : Prop :=
  ∃ sl : SlcE, e = .returned (.tuple #[.agg (rgv (regR (applyR r x)).1 sl).toArray, .bool (regR (applyR r x)).2]) ∧ (LogAt w' w'.heap.size sl (regR (applyR r x)).1.log ∧ ∀ b o, sl.1 = some ⟨b, o, none⟩ → w.heap.size ≤ b) ∧ Below w.heap.size w w'
theorem AppP.no {r : RegS} {x : RecS} {w w' : World} {e : Ending} (h : applyR r x = none) (he : e = .returned (.tuple #[.agg (rgv reg0 (none, 0, 0)).toArray, .bool false])) (hb : Below w.heap.size w w') : AppP r x w e w' := by
  refine ⟨(none, 0, 0), ?_, ?_, hb⟩
  · rw [h]; exact he
  · rw [h]; exact ⟨LogAt.nil, fun b o h => by cases h⟩
theorem AppP.yes {r a : RegS} {x : RecS} {w w' : World} {e : Ending} (h : applyR r x = some a) (sl : SlcE) (he : e = .returned (.tuple #[.agg (rgv a sl).toArray, .bool true])) (hl : LogAt w' w'.heap.size sl a.log) (hwh : ∀ b o, sl.1 = some ⟨b, o, none⟩ → w.heap.size ≤ b) (hb : Below w.heap.size w w') : AppP r x w e w' := by
  refine ⟨sl, ?_, ?_, hb⟩
  · rw [h]; exact he
  · rw [h]; exact ⟨hl, hwh⟩
theorem apply_bad {r : RegS} {x : RecS} (h : mayR r = false) : applyR r x = none := by
  unfold applyR; rw [if_neg (by rw [h]; simp)]

theorem Row.wh {w : World} {B B' : Nat} {A : Option Addr} {n c : Nat} {l : List Ent} (h : Row w B (.slice A n c) l) (hB : B' ≤ B) : ∀ b o, A = some ⟨b, o, none⟩ → B' ≤ b := by
  intro b o ho
  rcases h.where_ with h' | ⟨g, h', hg⟩
  · rw [h'] at ho; cases ho
  · rw [h'] at ho; cases ho; omega
theorem rgv_one (r : RegS) (sl : SlcE) : ∀ v ∈ rgv r sl, v.oneCell' = true := by simp [rgv, Value.oneCell']

set_option maxHeartbeats 4000000 in
theorem apply_off (r : RegS) (sl : SlcE) (x : RecV) (w : World) (hm : mayR r = false) (hl : LogAt w w.heap.size sl r.log) :
    Calls Try.prog 17 #[.agg (rgv r sl).toArray, .agg (rcv x).toArray] w (AppP r x.s w) := by
  have HM := Lib.hid (apply_bad (x := x.s) hm)
  have hz : Below w.heap.size w (((w.alloc (.cells (rgv r sl).toArray 37)).alloc (.cells (rcv x).toArray 53)).alloc (.cells (rgv reg0 (none, 0, 0)).toArray 37)) := (((Below.refl _ _).alloc (Nat.le_refl _) _).alloc (by simp) _).alloc (by simp; omega) _
  have BZ : Blk (((w.alloc (.cells (rgv r sl).toArray 37)).alloc (.cells (rcv x).toArray 53)).alloc (.cells (rgv reg0 (none, 0, 0)).toArray 37)) (w.heap.size + 1 + 1) 37 (rgv reg0 (none, 0, 0)) := Blk.newAt _ _ _ (by simp)
  have B0 : Blk (((w.alloc (.cells (rgv r sl).toArray 37)).alloc (.cells (rcv x).toArray 53)).alloc (.cells (rgv reg0 (none, 0, 0)).toArray 37)) w.heap.size 37 (rgv r sl) := ((Blk.new w _ _).alloc _).alloc _
  have hc := check15_any r sl _ (hl.keep hz)
  rw [hm] at hc
  have HH := Lib.hid (And.intro hz (And.intro BZ (And.intro B0 hc)))
  clear hz BZ B0 hc hl hm
  go_enter Try.func17, Try.ntmps17
  go_wp2_with ((with_reducible refine at_list ?_); refine wpList_load_blk rfl 37 _ rfl _ rfl _ _ _ (HH.out.2.2.1) Try.underlying37 rfl rg_info ?_)
  refine HH.out.2.2.2.mono ?_
  rintro e w1 ⟨rfl, hb⟩
  have hw1 := below_trans HH.out.1 hb HH.out.1.size
  have C2 := HH.out.2.1.keep hb
  clear HH hb
  go_wp2_with ((with_reducible refine at_list ?_); (refine wpList_store_blk rfl 37 _ _ rfl _ (rgv reg0 (none, 0, 0)) rfl rfl _ _ (C2) rg_info rfl (rgv_one _ _) ?_; intro w8 B8 hb8 hk8))
  have hw8 := hw1.trans (hb8 _ (by omega))
  apply ret_of
  · exact results_blk_tmp rfl _ _ _ _ _ _ rfl (B8) Try.underlying37 rfl rg_info _ rfl
  · exact ⟨rfl, AppP.no HM.out rfl hw8⟩

theorem LogAt.apart {w w' : World} {B k : Nat} {sl : SlcE} {l : List Ent} (h : LogAt w B sl l) (hB : B ≤ w.heap.size) (hg : w.grownBy w' (some k)) (hne : ∀ b o, sl.1 = some ⟨b, o, none⟩ → b ≠ k) : LogAt w' w'.heap.size sl l := by
  refine ⟨h.1, h.2.1, h.2.2.1, fun hl => ?_⟩
  obtain ⟨b, off, ha, hb, hc⟩ := h.2.2.2 hl
  have hk := hg.block b (by omega) (fun e => hne b off ha (Option.some.inj e))
  refine ⟨b, off, ha, Nat.lt_of_lt_of_le hb (Nat.le_trans hB hg.size), fun i e he => ?_⟩
  obtain ⟨c0, c1, c2, c3, c4, c5⟩ := hc i e he
  have key : ∀ o v, w.cell? ⟨b, o, none⟩ = some v → w'.cell? ⟨b, o, none⟩ = some v := fun o v hv => (World.cell?_of_block (a := ⟨b, o, none⟩) hk).trans hv
  exact ⟨key _ _ c0, key _ _ c1, key _ _ c2, key _ _ c3, key _ _ c4, key _ _ c5⟩
theorem viewR_some {r a : RegS} {x : RecS} (h : viewR r x = some a) : a = ⟨x.epoch, x.epoch, logR r x, r.com⟩ := by
  unfold viewR at h
  split at h
  · cases h; rfl
  · cases h

theorem Row.blkFar {w w' : World} {B k : Nat} {v : Value} {l : List Ent} (h : Row w B v l) (hk : ∀ i T cs, i ≠ k → Blk w i T cs → Blk w' i T cs) (hB : k < B) : Row w' B v l := by
  refine ⟨h.1, ?_⟩
  rcases h.2 with h' | ⟨g, cap, cur, h1, h2, h3, rest⟩
  · exact .inl h'
  · refine .inr ⟨g, cap, cur, h1, h2, ?_, rest⟩
    have := hk g 64 cur.toList (by omega) (by unfold Blk; simpa using h3)
    unfold Blk at this
    simpa using this

/-- One continuation for all leaves, with two letters. -/
theorem merge2 {G : Prop} (Inv : Nat → SlcE → World → Prop) (K : Act → World → Prop) {F : Nat → SlcE → Act} (h1 : (∀ g s w', Inv g s w' → K (F g s) w') → G) (h2 : ∀ g s w', Inv g s w' → K (F g s) w') : G := h1 h2

/-- What a kind comes to, of a register that may be. -/
theorem apply_1 {r : RegS} {x : RecS} (h : mayR r = true) (k : x.kind = 1) : applyR r x = if r.prom < x.epoch ∧ x.epoch ≤ 1048576 then some { r with prom := x.epoch } else none := by
  unfold applyR; rw [if_pos h, if_pos k]
theorem apply_2 {r : RegS} {x : RecS} (h : mayR r = true) (k : x.kind = 2) : applyR r x = viewR r x := by
  unfold applyR; rw [if_pos h, if_neg (by rw [k]; decide), if_pos k]
theorem apply_3 {r : RegS} {x : RecS} (h : mayR r = true) (k : x.kind = 3) : applyR r x = if r.com < x.len ∧ x.len ≤ r.log.length then some { r with com := x.len } else none := by
  unfold applyR; rw [if_pos h, if_neg (by rw [k]; decide), if_neg (by rw [k]; decide), if_pos k]
theorem apply_4 {r : RegS} {x : RecS} (h : mayR r = true) (k : x.kind = 4) : applyR r x = if r.prom = 0 ∧ mayR ⟨x.epoch, x.view, x.ents, x.len⟩ = true then some ⟨x.epoch, x.view, x.ents, x.len⟩ else none := by
  unfold applyR; rw [if_pos h, if_neg (by rw [k]; decide), if_neg (by rw [k]; decide), if_neg (by rw [k]; decide), if_pos k]
theorem apply_else {r : RegS} {x : RecS} (h1 : x.kind ≠ 1) (h2 : x.kind ≠ 2) (h3 : x.kind ≠ 3) (h4 : x.kind ≠ 4) : applyR r x = none := by
  unfold applyR; rw [if_neg h1, if_neg h2, if_neg h3, if_neg h4]; split <;> rfl

set_option maxHeartbeats 8000000 in
theorem apply_on (r : RegS) (sl : SlcE) (x : RecV) (w : World) (hm : mayR r = true) (hl : LogAt w w.heap.size sl r.log) (hx : LogAt w w.heap.size x.es x.ents) (hx2 : x.ents.length ≤ 1000) :
    Calls Try.prog 17 #[.agg (rgv r sl).toArray, .agg (rcv x).toArray] w (AppP r x.s w) := by
  have m64 : r.log.length ≤ 64 := ((okLog_iff _ _).1 ((mayR_iff r).1 hm).2.1).1
  have hz : Below w.heap.size w (((w.alloc (.cells (rgv r sl).toArray 37)).alloc (.cells (rcv x).toArray 53)).alloc (.cells (rgv reg0 (none, 0, 0)).toArray 37)) := (((Below.refl _ _).alloc (Nat.le_refl _) _).alloc (by simp) _).alloc (by simp; omega) _
  have BZ : Blk (((w.alloc (.cells (rgv r sl).toArray 37)).alloc (.cells (rcv x).toArray 53)).alloc (.cells (rgv reg0 (none, 0, 0)).toArray 37)) (w.heap.size + 1 + 1) 37 (rgv reg0 (none, 0, 0)) := Blk.newAt _ _ _ (by simp)
  have B0 : Blk (((w.alloc (.cells (rgv r sl).toArray 37)).alloc (.cells (rcv x).toArray 53)).alloc (.cells (rgv reg0 (none, 0, 0)).toArray 37)) w.heap.size 37 (rgv r sl) := ((Blk.new w _ _).alloc _).alloc _
  have B1 : Blk (((w.alloc (.cells (rgv r sl).toArray 37)).alloc (.cells (rcv x).toArray 53)).alloc (.cells (rgv reg0 (none, 0, 0)).toArray 37)) (w.heap.size + 1) 53 (rcv x) := (Blk.newAt _ _ _ (by simp)).alloc _
  have hc := check15_any r sl _ (hl.keep hz)
  rw [hm] at hc
  have HM := Lib.hid hm
  have HLX := Lib.hid (And.intro hl hx)
  have HH := Lib.hid (And.intro hz (And.intro BZ (And.intro B0 (And.intro B1 hc))))
  clear hz BZ B0 B1 hc hl hm hx
  go_enter Try.func17, Try.ntmps17
  go_wp2_with ((with_reducible refine at_list ?_); refine wpList_load_blk rfl 37 _ rfl _ rfl _ _ _ (HH.out.2.2.1) Try.underlying37 rfl rg_info ?_)
  refine HH.out.2.2.2.2.mono ?_
  rintro e w1 ⟨rfl, hb⟩
  have hw1 := below_trans HH.out.1 hb HH.out.1.size
  have hzB := hw1.size
  have C2 := HH.out.2.1.keep hb
  have C0 := HH.out.2.2.1.keep hb
  have C1 := HH.out.2.2.2.1.keep hb
  have l2 := C2.lt
  clear HH hb
  go_wp2_with ((with_reducible refine at_list ?_); refine wpList_load_blk rfl 37 _ rfl _ rfl _ _ _ (C0) Try.underlying37 rfl rg_info ?_)
  refine (regclone_any r sl _ (HLX.out.1.keep hw1) (by omega)).mono ?_
  rintro e w2 ⟨sl2, rfl, hR, hb⟩
  have hw2 := below_trans hw1 hb hw1.size
  have D2 := C2.keep hb
  have D0 := C0.keep hb
  have D1 := C1.keep hb
  clear hb C0 C1 C2
  have HR := Lib.hid hR
  clear hR hw1
  go_wp2_with ((with_reducible refine at_list ?_); first | (refine wpList_store_own rfl 37 _ _ rfl _ (rgv r sl2) rfl rfl _ _ (D0) rg_info rfl (rgv_one _ _) ?_; intro w3 E0 g3) | (with_reducible refine cut_at 14 rfl ?_))
  refine Cut.go ?_
  have hz2 := hw2.size
  have hw3 := hw2.trans (below_grown g3 (Nat.le_refl _) hz2)
  have E1 := D1.grown g3 (fun e => by have := Option.some.inj e; omega)
  have E2 := D2.grown g3 (fun e => by have := Option.some.inj e; omega)
  have R3 := Row.far HR.out g3 (by omega)
  have hz3 := hw3.size
  have l3 := E2.lt
  clear g3 HR D0 D1 D2 hw2
  have HR := Lib.hid R3
  clear R3
  have x0 := E1.cell 0
  have x2 := E1.cell 2
  have x3 := E1.cell 3
  have x5 := E1.cell 5
  have r0 := E0.cell 0
  have r2 := E0.cell 2
  have r3 := E0.cell 3
  have fr := E0.frozen
  have lE1 := E1.lt
  have lE0 := E0.lt
  simp [rcv] at x0 x2 x3 x5
  simp [rgv] at r0 r2 r3
  by_cases k1 : x.kind = 1
  case pos =>
    rw [k1] at x0
    have hA := apply_1 (x := x.s) HM.out k1
    have F0 := E0.set 0 (.int .i64 x.epoch)
    have F0 : Blk _ _ _ (rgv { r with prom := x.epoch } sl2) := F0.of_eq rfl
    have F2 := E2.far (p := ⟨w.heap.size, 0, none⟩) (by simp; omega) (.int .i64 x.epoch)
    have g4 : w3.grownBy (w3.setCell ⟨w.heap.size, 0, none⟩ (.int .i64 x.epoch)) (some w.heap.size) := by (repeat (first | with_reducible apply only_drew | with_reducible refine only_setCell ?_ (by first | exact Or.inl rfl | (right; simp; done) | (right; simp; omega) | (right; omega)) _ | with_reducible refine only_alloc ?_ _ | with_reducible exact World.grownBy.refl _ _ | with_reducible assumption))
    have hw4 := hw3.trans (below_grown g4 (Nat.le_refl _) hz3)
    have R4 := Row.far HR.out g4 (by omega)
    have H4 := Lib.hid (And.intro hw4 R4)
    clear hw4 R4 g4
    have hA' : applyR r x.s = if r.prom < x.epoch ∧ x.epoch ≤ 1048576 then some { r with prom := x.epoch } else none := hA
    clear hA k1
    by_cases hc : r.prom < x.epoch ∧ x.epoch ≤ 1048576
    · rw [if_pos hc] at hA'
      have HA := Lib.hid hA'
      obtain ⟨c1, c2⟩ := hc
      clear hA'
      go_wp2_with ((with_reducible refine at_list ?_); first | refine wpList_load_blk rfl 37 _ rfl _ rfl _ _ _ (F0) Try.underlying37 rfl rg_info ?_ | (refine wpList_store_own rfl 37 _ _ rfl _ (rgv _ sl2) rfl rfl _ _ (F2) rg_info rfl (rgv_one _ _) ?_; intro w8 B8 g8))
      have hw8 := H4.out.1.trans (below_grown g8 (by omega) H4.out.1.size)
      have R8 := Row.far H4.out.2 g8 (by omega)
      apply ret_of
      · exact results_blk_tmp rfl _ _ _ _ _ _ rfl (B8) Try.underlying37 rfl rg_info _ rfl
      · exact ⟨rfl, AppP.yes HA.out sl2 rfl R8.logAt (R8.wh hzB) hw8⟩
    · rw [if_neg hc] at hA'
      have HA := Lib.hid hA'
      clear hA'
      have hcc : (¬ r.prom < x.epoch) ∨ (r.prom < x.epoch ∧ ¬ x.epoch ≤ 1048576) := by
        by_cases h : r.prom < x.epoch
        · exact .inr ⟨h, fun h' => hc ⟨h, h'⟩⟩
        · exact .inl h
      clear hc
      rcases hcc with c1 | ⟨c1, c2⟩
      all_goals
        go_wp2_with ((with_reducible refine at_list ?_); (refine wpList_store_own rfl 37 _ _ rfl _ (rgv reg0 (none, 0, 0)) rfl rfl _ _ (F2) rg_info rfl (rgv_one _ _) ?_; intro w8 B8 g8))
        have hw8 := H4.out.1.trans (below_grown g8 (by omega) H4.out.1.size)
        apply ret_of
        · exact results_blk_tmp rfl _ _ _ _ _ _ rfl (B8) Try.underlying37 rfl rg_info _ rfl
        · exact ⟨rfl, AppP.no HA.out rfl hw8⟩
  by_cases k2 : x.kind = 2
  case pos =>
    rw [k2] at x0
    have hA : applyR r x.s = viewR r x.s := apply_2 (x := x.s) HM.out k2
    have HA := Lib.hid hA
    clear hA k1 k2
    go_wp2_with ((with_reducible refine at_list ?_); first | refine wpList_load_blk rfl 37 _ rfl _ rfl _ _ _ (E0) Try.underlying37 rfl rg_info ?_ | refine wpList_load_blk rfl 53 _ rfl _ rfl _ _ _ (E1) Try.underlying53 rfl rc_info ?_)
    refine (viewed_any r sl2 x w3 HM.out HR.out.logAt (HLX.out.2.keep hw3) hx2).mono ?_
    rintro e w4 ⟨slv, rfl, hLv, hb⟩
    have hw4 := below_trans hw3 hb hz3
    have G0 := E0.keep hb
    have G1 := E1.keep hb
    have G2 := E2.keep hb
    have hz4 := hw4.size
    have HLv := Lib.hid hLv
    clear hb hLv E0 E1 E2 x0 x2 x3 x5 r0 r2 r3 fr lE1 lE0
    have r2 := G0.cell 2
    have fr := G0.frozen
    have lG0 := G0.lt
    have lG1 := G1.lt
    simp [rgv] at r2
    have J0 := G0.set 2 (.slice slv.1 slv.2.1 slv.2.2)
    have J1 := G1.far (p := ⟨w.heap.size, 2, none⟩) (by simp) (.slice slv.1 slv.2.1 slv.2.2)
    have J2 := G2.far (p := ⟨w.heap.size, 2, none⟩) (by simp; omega) (.slice slv.1 slv.2.1 slv.2.2)
    have hw5 : Below w.heap.size w (w4.setCell ⟨w.heap.size, 2, none⟩ (.slice slv.1 slv.2.1 slv.2.2)) := hw4.setCell (Nat.le_refl _) _
    have gg : w4.grownBy (w4.setCell ⟨w.heap.size, 2, none⟩ (.slice slv.1 slv.2.1 slv.2.2)) (some w.heap.size) := by (repeat (first | with_reducible apply only_drew | with_reducible refine only_setCell ?_ (by first | exact Or.inl rfl | (right; simp; done) | (right; simp; omega) | (right; omega)) _ | with_reducible refine only_alloc ?_ _ | with_reducible exact World.grownBy.refl _ _ | with_reducible assumption))
    have HJ := Lib.hid (And.intro J0 (And.intro J1 (And.intro J2 (And.intro hw5 gg))))
    clear J0 J1 J2 hw5 gg
    go_wp2_with fail
    clear r2 fr
    obtain ⟨J0, J1, J2, hw5, gg⟩ := HJ.out
    clear HJ
    generalize w4.setCell ⟨w.heap.size, 2, none⟩ (.slice slv.1 slv.2.1 slv.2.2) = w5 at J0 J1 J2 hw5 gg ⊢
    have hz5 := hw5.size
    refine wp_region_p ([(0, true), (1, true), (2, true), (3, true), (4, true), (5, false), (6, true), (7, false)]) (fun w' => Below w.heap.size w w' ∧ Blk w' (w.heap.size + 1) 53 (rcv x)) (by kernel_rfl) rfl (by kernel_rfl) (by kernel_rfl) (⟨hw5.drew, J1.drew⟩) rfl ?_
    intro KP RP TP hKP hTP hTP'
    simp only [pick, nth]
    go_wp2_with (first
      | (apply SeqP.skip; rfl; simp only [Act.put, List.setIfInBounds_toArray, List.set_cons_zero, List.set_cons_succ])
      | (apply SeqP.call; rfl; rfl; (intro w2 hw; have hw := hTP _ hw; ((have x2 := hw.2.cell 2; simp [rcv] at x2)); go_simp; exact ⟨rfl, rfl⟩); (intro w2 hw; have hw := hTP _ hw; ((have x2 := hw.2.cell 2; simp [rcv] at x2)); (first | fail)); simp only [Act.put, List.setIfInBounds_toArray, List.set_cons_zero, List.set_cons_succ])
      | (apply SeqP.pure; rfl; (intro w2 hw; have hw := hTP _ hw; ((have x2 := hw.2.cell 2; simp [rcv] at x2)); go_simp; with_reducible rfl); simp only [Act.put, List.setIfInBounds_toArray, List.set_cons_zero, List.set_cons_succ])
      | (apply SeqP.split; rfl; rfl; all_goals (intro hc; simp only [hc]; try simp only [beq_iff_eq, decide_eq_true_eq, beq_eq_false_iff_ne, decide_eq_false_iff_not, bne_iff_ne, ne_eq, Bool.not_eq_true', Bool.not_eq_false', Int.not_le, Int.not_lt, bne_eq_false_iff_eq, Bool.or_eq_true, Bool.and_eq_true, Bool.or_eq_false_iff] at hc)))
    have y0 := J0.drew.cell 0
    have y1 := J0.drew.cell 1
    have fr := J0.drew.frozen
    have lJ0 := J0.lt
    simp [rgv] at y0 y1
    apply SeqP.eff
    · rfl
    intro KE hKE
    go_wp2_with fail
    have hw6 : Below w.heap.size w (w5.drew.setCell ⟨w.heap.size, 0, none⟩ (.int .i64 x.epoch)) := hw5.drew.setCell (Nat.le_refl _) _
    have L1 := J1.drew.far (p := ⟨w.heap.size, 0, none⟩) (by simp) (.int .i64 x.epoch)
    refine hKE _ _ (hTP' _ ⟨hw6, L1⟩) ?_
    clear hKE KE
    go_wp2_with (first
      | (apply SeqP.skip; rfl; simp only [Act.put, List.setIfInBounds_toArray, List.set_cons_zero, List.set_cons_succ])
      | (apply SeqP.call; rfl; rfl; (intro w2 hw; have hw := hTP _ hw; ((have x2 := hw.2.cell 2; simp [rcv] at x2)); go_simp; exact ⟨rfl, rfl⟩); (intro w2 hw; have hw := hTP _ hw; ((have x2 := hw.2.cell 2; simp [rcv] at x2)); (first | fail)); simp only [Act.put, List.setIfInBounds_toArray, List.set_cons_zero, List.set_cons_succ])
      | (apply SeqP.pure; rfl; (intro w2 hw; have hw := hTP _ hw; ((have x2 := hw.2.cell 2; simp [rcv] at x2)); go_simp; with_reducible rfl); simp only [Act.put, List.setIfInBounds_toArray, List.set_cons_zero, List.set_cons_succ])
      | (apply SeqP.split; rfl; rfl; all_goals (intro hc; simp only [hc]; try simp only [beq_iff_eq, decide_eq_true_eq, beq_eq_false_iff_ne, decide_eq_false_iff_not, bne_iff_ne, ne_eq, Bool.not_eq_true', Bool.not_eq_false', Int.not_le, Int.not_lt, bne_eq_false_iff_eq, Bool.or_eq_true, Bool.and_eq_true, Bool.or_eq_false_iff] at hc)))
    have hJ6 := J0.set 0 (.int .i64 x.epoch)
    have z1 : (w5.setCell ⟨w.heap.size, 0, none⟩ (.int .i64 x.epoch)).cell? ⟨w.heap.size, 1, none⟩ = some (.int .i64 r.view) := hJ6.cell 1
    have fr6 := hJ6.frozen
    have y2 : w5.cell? ⟨w.heap.size, 1, none⟩ = some (.int .i64 r.view) := J0.cell 1
    have fr5 := J0.frozen
    apply SeqP.eff
    · rfl
    intro KE hKE
    clear y0 y1 fr
    go_wp2_with fail
    have hw7 : Below w.heap.size w ((w5.drew.setCell ⟨w.heap.size, 0, none⟩ (.int .i64 x.epoch)).setCell ⟨w.heap.size, 1, none⟩ (.int .i64 x.epoch)) := hw6.setCell (Nat.le_refl _) _
    have M1 := L1.far (p := ⟨w.heap.size, 1, none⟩) (by simp) (.int .i64 x.epoch)
    refine hKE _ _ (hTP' _ ⟨hw7, M1⟩) ?_
    clear hKE KE
    apply SeqP.nil
    refine hKP _ _ (hTP' _ (⟨hw7, M1⟩)) ?_
    clear hKP hTP hTP'
    have K0 := ((J0.set 0 (.int .i64 x.epoch)).set 1 (.int .i64 x.epoch)).drew
    have K2 := ((J2.far (p := ⟨w.heap.size, 0, none⟩) (by simp; omega) (.int .i64 x.epoch)).far (p := ⟨w.heap.size, 1, none⟩) (by simp; omega) (.int .i64 x.epoch)).drew
    have hw7' : Below w.heap.size w ((w5.setCell ⟨w.heap.size, 0, none⟩ (.int .i64 x.epoch)).setCell ⟨w.heap.size, 1, none⟩ (.int .i64 x.epoch)).drew := ((hw5.setCell (Nat.le_refl _) _).setCell (Nat.le_refl _) _).drew
    have g7 : w5.grownBy ((w5.setCell ⟨w.heap.size, 0, none⟩ (.int .i64 x.epoch)).setCell ⟨w.heap.size, 1, none⟩ (.int .i64 x.epoch)).drew (some w.heap.size) := by (repeat (first | with_reducible apply only_drew | with_reducible refine only_setCell ?_ (by first | exact Or.inl rfl | (right; simp; done) | (right; simp; omega) | (right; omega)) _ | with_reducible refine only_alloc ?_ _ | with_reducible exact World.grownBy.refl _ _ | with_reducible assumption))
    clear z1 fr6 y2 fr5 hJ6 J0 J1 J2 hw6 L1 M1 hw7
    have hw7 := hw7'
    clear hw7'
    generalize ((w5.setCell ⟨w.heap.size, 0, none⟩ (.int .i64 x.epoch)).setCell ⟨w.heap.size, 1, none⟩ (.int .i64 x.epoch)).drew = w7 at hw7 K0 K2 g7 ⊢
    have hz7 := hw7.size
    cases hv : viewR r x.s with
    | none =>
      have HN := Lib.hid (HA.out.trans hv)
      clear hv
      simp only [Option.isSome_none]
      go_wp2_with ((with_reducible refine at_list ?_); (refine wpList_store_own rfl 37 _ _ rfl _ (rgv reg0 (none, 0, 0)) rfl rfl _ _ (K2) rg_info rfl (rgv_one _ _) ?_; intro w8 B8 g8))
      have hw8 := hw7.trans (below_grown g8 (by omega) hz7)
      apply ret_of
      · exact results_blk_tmp rfl _ _ _ _ _ _ rfl (B8) Try.underlying37 rfl rg_info _ rfl
      · exact ⟨rfl, AppP.no HN.out rfl hw8⟩
    | some a =>
      have HY := Lib.hid (HA.out.trans hv)
      obtain ⟨hL4, hwh⟩ := HLv.out a hv
      have ha := viewR_some hv
      have hne : ∀ b o, slv.1 = some ⟨b, o, none⟩ → w.heap.size + 1 + 1 < b := by
        intro b o hb
        rcases hwh with h | ⟨g, h, hg⟩
        · rcases Row.where_ HR.out with h2 | ⟨g, h2, hg⟩
          · rw [h2] at h; rw [h] at hb; cases hb
          · rw [h2] at h; rw [h] at hb; cases hb; omega
        · rw [h] at hb; cases hb; omega
      have hL5 := hL4.apart (Nat.le_refl _) gg (fun b o h => by have := hne b o h; omega)
      have hL7 := hL5.apart (Nat.le_refl _) g7 (fun b o h => by have := hne b o h; omega)
      have HL7 := Lib.hid (And.intro hL7 hne)
      have K0 : Blk w7 w.heap.size 37 (rgv a slv) := K0.of_eq (by rw [ha]; rfl)
      clear hL4 hwh hL5 hL7 hne ha hv
      simp only [Option.isSome_some]
      go_wp2_with ((with_reducible refine at_list ?_); first | refine wpList_load_blk rfl 37 _ rfl _ rfl _ _ _ (K0) Try.underlying37 rfl rg_info ?_ | (refine wpList_store_own rfl 37 _ _ rfl _ (rgv _ slv) rfl rfl _ _ (K2) rg_info rfl (rgv_one _ _) ?_; intro w8 B8 g8))
      have hw8 := hw7.trans (below_grown g8 (by omega) hz7)
      have hL8 := HL7.out.1.apart (Nat.le_refl _) g8 (fun b o h => by have := HL7.out.2 b o h; omega)
      apply ret_of
      · exact results_blk_tmp rfl _ _ _ _ _ _ rfl (B8) Try.underlying37 rfl rg_info _ rfl
      · exact ⟨rfl, AppP.yes HY.out slv rfl hL8 (fun b o h => by have := HL7.out.2 b o h; omega) hw8⟩
  by_cases k3 : x.kind = 3
  case pos =>
    rw [k3] at x0
    have hA : applyR r x.s = if r.com < x.len ∧ x.len ≤ r.log.length then some { r with com := x.len } else none := apply_3 (x := x.s) HM.out k3
    have hln : sl2.2.1 = r.log.length := HR.out.logAt.1
    rw [hln] at r2
    have F0 := E0.set 3 (.int .i64 x.len)
    have F0 : Blk _ _ _ (rgv { r with com := x.len } sl2) := F0.of_eq rfl
    have F2 := E2.far (p := ⟨w.heap.size, 3, none⟩) (by simp; omega) (.int .i64 x.len)
    have g4 : w3.grownBy (w3.setCell ⟨w.heap.size, 3, none⟩ (.int .i64 x.len)) (some w.heap.size) := by (repeat (first | with_reducible apply only_drew | with_reducible refine only_setCell ?_ (by first | exact Or.inl rfl | (right; simp; done) | (right; simp; omega) | (right; omega)) _ | with_reducible refine only_alloc ?_ _ | with_reducible exact World.grownBy.refl _ _ | with_reducible assumption))
    have hw4 := hw3.trans (below_grown g4 (Nat.le_refl _) hz3)
    have R4 := Row.far HR.out g4 (by omega)
    have H4 := Lib.hid (And.intro hw4 R4)
    clear hw4 R4 g4 hln k1 k2 k3
    by_cases hc : r.com < x.len ∧ x.len ≤ (r.log.length : Int)
    · rw [if_pos hc] at hA
      have HA := Lib.hid hA
      obtain ⟨c1, c2⟩ := hc
      have d1 : decide (x.len ≤ (r.log.length : Int)) = true := decide_eq_true c2
      clear hA
      go_wp2_with ((with_reducible refine at_list ?_); first | refine wpList_load_blk rfl 37 _ rfl _ rfl _ _ _ (F0) Try.underlying37 rfl rg_info ?_ | (refine wpList_store_own rfl 37 _ _ rfl _ (rgv _ sl2) rfl rfl _ _ (F2) rg_info rfl (rgv_one _ _) ?_; intro w8 B8 g8))
      have hw8 := H4.out.1.trans (below_grown g8 (by omega) H4.out.1.size)
      have R8 := Row.far H4.out.2 g8 (by omega)
      apply ret_of
      · exact results_blk_tmp rfl _ _ _ _ _ _ rfl (B8) Try.underlying37 rfl rg_info _ rfl
      · exact ⟨rfl, AppP.yes HA.out sl2 rfl R8.logAt (R8.wh hzB) hw8⟩
    · rw [if_neg hc] at hA
      have HA := Lib.hid hA
      clear hA
      have hcc : (¬ r.com < x.len) ∨ (r.com < x.len ∧ ¬ x.len ≤ (r.log.length : Int)) := by
        by_cases h : r.com < x.len
        · exact .inr ⟨h, fun h' => hc ⟨h, h'⟩⟩
        · exact .inl h
      clear hc
      rcases hcc with c1 | ⟨c1, c2⟩
      case' inr => have d1 : decide (x.len ≤ (r.log.length : Int)) = false := decide_eq_false c2
      all_goals
        go_wp2_with ((with_reducible refine at_list ?_); (refine wpList_store_own rfl 37 _ _ rfl _ (rgv reg0 (none, 0, 0)) rfl rfl _ _ (F2) rg_info rfl (rgv_one _ _) ?_; intro w8 B8 g8))
        have hw8 := H4.out.1.trans (below_grown g8 (by omega) H4.out.1.size)
        apply ret_of
        · exact results_blk_tmp rfl _ _ _ _ _ _ rfl (B8) Try.underlying37 rfl rg_info _ rfl
        · exact ⟨rfl, AppP.no HA.out rfl hw8⟩
  by_cases k4 : x.kind = 4
  case pos =>
    rw [k4] at x0
    have hA : applyR r x.s = if r.prom = 0 ∧ mayR ⟨x.epoch, x.view, x.ents, x.len⟩ = true then some ⟨x.epoch, x.view, x.ents, x.len⟩ else none := apply_4 (x := x.s) HM.out k4
    have HA := Lib.hid hA
    have hes : x.es.2.1 = x.ents.length := HLX.out.2.1
    have HLE : Hid (∀ W', Below w.heap.size w W' → LogAt W' W'.heap.size (x.es.1, x.ents.length, x.es.2.2) x.ents) := Lib.hid (fun W' h => by have h2 := HLX.out.2.keep h; exact ⟨rfl, h2.2.1, h2.2.2.1, h2.2.2.2⟩)
    clear hA k1 k2 k3 k4 x2 x3 x5 r2 r3
    go_wp2_with fail
    refine wp_region_t (.quiet 0 (.quiet 1 (.quiet 2 (.quiet 3 (.quiet 4 (.quiet 5 (.quiet 7 (.quiet 8 (.two 6 10 (.quiet 9 (.one 10 (.one 11 .done))) (.one 6 (.quiet 9 (.one 11 .done)))))))))))) (fun w' => Below w.heap.size w w' ∧ Blk w' (w.heap.size + 1) 53 (rcv x)) (by kernel_rfl) (by kernel_rfl) (by kernel_rfl) (by kernel_rfl) (⟨hw3.drew, E1.drew⟩) rfl ?_
    intro KP RP TP hKP hTP hTP'
    simp only [Sch.fill, nth]
    apply merge2 (Inv := fun g s w' => Below w.heap.size w w' ∧ Blk w' w.heap.size 37 (rgv r sl2) ∧ Blk w' (w.heap.size + 1) 53 (rcv x) ∧ Blk w' (w.heap.size + 1 + 1) 37 (rgv reg0 (none, 0, 0)) ∧ Blk w' g 37 (rgv ⟨x.epoch, x.view, x.ents, x.len⟩ s) ∧ LogAt w' w'.heap.size s x.ents ∧ (∀ b o, s.1 = some ⟨b, o, none⟩ → w.heap.size + 1 + 1 < b) ∧ w.heap.size + 1 + 1 < g) (K := KP)
    · intro HK
      go_wp2_with (first
        | (apply SeqT.skip; rfl; simp only [Act.put, List.setIfInBounds_toArray, List.set_cons_zero, List.set_cons_succ])
        | (apply SeqT.pure; rfl; (intro w2 hw; have hw := hTP _ hw; (have z2 := hw.2.cell 2; have z3 := hw.2.cell 3; have z5 := hw.2.cell 5; have z6 := hw.2.cell 6; simp [rcv] at z2 z3 z5 z6); go_simp; with_reducible rfl); simp only [Act.put, List.setIfInBounds_toArray, List.set_cons_zero, List.set_cons_succ]))
      apply SeqT.two
      · apply EffT.go
        · rfl
        intro KE hKE
        go_wp2_with fail
        have hC := clone_any x.ents x.es.1 x.es.2.2 w3.drew (HLE.out _ hw3.drew) (by omega)
        refine hC.mono ?_
        clear hC
        rintro e w4 ⟨v, rfl, hRv, hb⟩
        obtain ⟨s, rfl, hs⟩ := hRv.log
        have hwhere := Row.where_ hRv
        have hw4 := below_trans hw3.drew hb hz3
        have F0 := E0.drew.keep hb
        have F1 := E1.drew.keep hb
        have F2 := E2.drew.keep hb
        have hz4 := hb.size
        have lF2 := F2.lt
        refine hKE _ _ (hTP' _ ⟨hw4, F1⟩) ?_
        clear hKE KE
        go_wp2_with (first
          | (apply SeqT.skip; rfl; simp only [Act.put, List.setIfInBounds_toArray, List.set_cons_zero, List.set_cons_succ])
          | (apply SeqT.pure; rfl; (intro w2 hw; have hw := hTP _ hw; (have z2 := hw.2.cell 2; have z3 := hw.2.cell 3; have z5 := hw.2.cell 5; have z6 := hw.2.cell 6; simp [rcv] at z2 z3 z5 z6); go_simp; with_reducible rfl); simp only [Act.put, List.setIfInBounds_toArray, List.set_cons_zero, List.set_cons_succ]))
        apply SeqT.one
        apply EffT.go
        · rfl
        intro KE hKE
        go_wp2_with fail
        have ZZ := Blk.new w4 37 (rgv reg0 (none, 0, 0))
        have hwA := hw4.alloc hw4.size (.cells (rgv reg0 (none, 0, 0)).toArray 37)
        have A0 := F0.alloc (.cells (rgv reg0 (none, 0, 0)).toArray 37)
        have A1 := F1.alloc (.cells (rgv reg0 (none, 0, 0)).toArray 37)
        have A2 := F2.alloc (.cells (rgv reg0 (none, 0, 0)).toArray 37)
        refine hKE _ _ (hTP' _ ⟨hwA, A1⟩) ?_
        clear hKE KE
        apply SeqT.one
        apply EffT.go
        · rfl
        intro KE hKE
        refine wp_store_blk 37 _ _ rfl _ (rgv ⟨x.epoch, x.view, x.ents, x.len⟩ s) rfl rfl _ _ ZZ rg_info rfl (rgv_one _ _) ?_
        intro w5 B5 hb5 hk5
        have hw5 := hwA.trans (hb5 _ (by omega))
        have P0 := hk5 _ _ _ (by omega) A0
        have P1 := hk5 _ _ _ (by omega) A1
        have P2 := hk5 _ _ _ (by omega) A2
        have hsl := hs.keep (((Below.refl _ _).alloc (Nat.le_refl _) _).trans (hb5 _ (Nat.le_refl _)))
        have hwh : ∀ b o, s.1 = some ⟨b, o, none⟩ → w.heap.size + 1 + 1 < b := by
          intro b o hb
          rcases hwhere with h | ⟨g, h, hg⟩
          · rw [h] at hb; cases hb
          · rw [h] at hb; have e := congrArg Addr.block (Option.some.inj hb); have hg' : w3.heap.size ≤ g := hg; simp only at e; omega
        have hgt : w.heap.size + 1 + 1 < w4.heap.size := by omega
        refine hKE _ _ (hTP' _ ⟨hw5, P1⟩) ?_
        clear hKE KE
        go_wp2_with (first
          | (apply SeqT.skip; rfl; simp only [Act.put, List.setIfInBounds_toArray, List.set_cons_zero, List.set_cons_succ])
          | (apply SeqT.pure; rfl; (intro w2 hw; have hw := hTP _ hw; (have z2 := hw.2.cell 2; have z3 := hw.2.cell 3; have z5 := hw.2.cell 5; have z6 := hw.2.cell 6; simp [rcv] at z2 z3 z5 z6); go_simp; with_reducible rfl); simp only [Act.put, List.setIfInBounds_toArray, List.set_cons_zero, List.set_cons_succ]))
        apply SeqT.done
        clear hb5 hk5 A0 A1 A2 ZZ
        generalize w4.heap.size = gg at B5 hgt ⊢
        exact HK gg s _ ⟨hw5, P0, P1, P2, B5, hsl, hwh, hgt⟩
      · have ZZ := Blk.new w3.drew 37 (rgv reg0 (none, 0, 0))
        have hwA := hw3.drew.alloc hz3 (.cells (rgv reg0 (none, 0, 0)).toArray 37)
        have A0 := E0.drew.alloc (.cells (rgv reg0 (none, 0, 0)).toArray 37)
        have A1 := E1.drew.alloc (.cells (rgv reg0 (none, 0, 0)).toArray 37)
        have A2 := E2.drew.alloc (.cells (rgv reg0 (none, 0, 0)).toArray 37)
        have hsz : (w3.drew.alloc (.cells (rgv reg0 (none, 0, 0)).toArray 37)).heap.size = w3.heap.size + 1 := by simp
        have hC := clone_any x.ents x.es.1 x.es.2.2 (w3.drew.alloc (.cells (rgv reg0 (none, 0, 0)).toArray 37)) (HLE.out _ hwA) (by omega)
        have HC := Lib.hid hC
        clear hC
        apply EffT.go
        · rfl
        intro KE hKE
        go_wp2_with fail
        refine hKE _ _ (hTP' _ ⟨hwA, A1⟩) ?_
        clear hKE KE
        apply SeqT.one
        apply EffT.go
        · rfl
        intro KE hKE
        go_wp2_with fail
        refine HC.out.mono ?_
        rintro e w4 ⟨v, rfl, hRv, hb⟩
        obtain ⟨s, rfl, hs⟩ := hRv.log
        have hwhere := Row.where_ hRv
        have hw4 := below_trans hwA hb hwA.size
        have F0 := A0.keep hb
        have F1 := A1.keep hb
        have F2 := A2.keep hb
        have Z1 := ZZ.keep hb
        refine hKE _ _ (hTP' _ ⟨hw4, F1⟩) ?_
        clear hKE KE hb A0 A1 A2 ZZ HC
        go_wp2_with (first
          | (apply SeqT.skip; rfl; simp only [Act.put, List.setIfInBounds_toArray, List.set_cons_zero, List.set_cons_succ])
          | (apply SeqT.pure; rfl; (intro w2 hw; have hw := hTP _ hw; (have z2 := hw.2.cell 2; have z3 := hw.2.cell 3; have z5 := hw.2.cell 5; have z6 := hw.2.cell 6; simp [rcv] at z2 z3 z5 z6); go_simp; with_reducible rfl); simp only [Act.put, List.setIfInBounds_toArray, List.set_cons_zero, List.set_cons_succ]))
        apply SeqT.one
        apply EffT.go
        · rfl
        intro KE hKE
        refine wp_store_blk 37 _ _ rfl _ (rgv ⟨x.epoch, x.view, x.ents, x.len⟩ s) rfl rfl _ _ Z1 rg_info rfl (rgv_one _ _) ?_
        intro w5 B5 hb5 hk5
        have hw5 := hw4.trans (hb5 _ hz3)
        have P0 := hk5 _ _ _ (by show w.heap.size ≠ w3.heap.size; omega) F0
        have P1 := hk5 _ _ _ (by show w.heap.size + 1 ≠ w3.heap.size; omega) F1
        have P2 := hk5 _ _ _ (by show w.heap.size + 1 + 1 ≠ w3.heap.size; omega) F2
        have hsl := (hRv.blkFar hk5 (by rw [hsz]; exact Nat.lt_succ_self _)).logAt
        have hwh : ∀ b o, s.1 = some ⟨b, o, none⟩ → w.heap.size + 1 + 1 < b := by
          intro b o hb
          rcases hwhere with h | ⟨g, h, hg⟩
          · rw [h] at hb; cases hb
          · rw [h] at hb; cases hb; rw [hsz] at hg; omega
        have hgt : w.heap.size + 1 + 1 < w3.heap.size := by omega
        refine hKE _ _ (hTP' _ ⟨hw5, P1⟩) ?_
        clear hKE KE
        go_wp2_with (first
          | (apply SeqT.skip; rfl; simp only [Act.put, List.setIfInBounds_toArray, List.set_cons_zero, List.set_cons_succ])
          | (apply SeqT.pure; rfl; (intro w2 hw; have hw := hTP _ hw; (have z2 := hw.2.cell 2; have z3 := hw.2.cell 3; have z5 := hw.2.cell 5; have z6 := hw.2.cell 6; simp [rcv] at z2 z3 z5 z6); go_simp; with_reducible rfl); simp only [Act.put, List.setIfInBounds_toArray, List.set_cons_zero, List.set_cons_succ]))
        apply SeqT.done
        clear hb5 hk5 F0 F1 F2 Z1
        have B5' : Blk w5 w3.heap.size 37 (rgv ⟨x.epoch, x.view, x.ents, x.len⟩ s) := B5
        clear B5
        generalize w3.heap.size = gg at B5' hgt ⊢
        exact HK gg s _ ⟨hw5, P0, P1, P2, B5', hsl, hwh, hgt⟩
    · intro g s w5 hI
      refine hKP _ _ (hTP' _ ⟨hI.1, hI.2.2.1⟩) ?_
      clear hKP hTP hTP' E0 E1 E2 x0 r0 fr lE1 lE0
      obtain ⟨hw5, P0, P1, P2, PG, hsl, hwh, hgt⟩ := hI
      have hz5 := hw5.size
      have r0 : w5.cell? ⟨w.heap.size, 0, none⟩ = some (.int .i64 r.prom) := P0.cell 0
      have lP0 := P0.lt
      have lPG := PG.lt
      by_cases hp : r.prom = 0
      · have hpb : (r.prom == 0) = true := by rw [beq_iff_eq]; exact hp
        have HP := Lib.hid hp
        clear hp
        go_wp2_with ((with_reducible refine at_list ?_); refine wpList_load_blk_g 37 _ rfl rfl _ rfl _ _ _ (PG) Try.underlying37 rfl rg_info ?_)
        refine (check15_any ⟨x.epoch, x.view, x.ents, x.len⟩ s w5 hsl).mono ?_
        rintro e w6 ⟨rfl, hb⟩
        have hw6 := below_trans hw5 hb hz5
        have Q0 := P0.keep hb
        have Q2 := P2.keep hb
        have QG := PG.keep hb
        have hs6 := hsl.keep hb
        have hz6 := hw6.size
        clear hb P0 P1 P2 PG r0 hsl
        cases hm2 : mayR ⟨x.epoch, x.view, x.ents, x.len⟩ with
        | false =>
          have hN : applyR r x.s = none := by rw [HA.out, if_neg (fun h => by rw [hm2] at h; cases h.2)]
          have HN := Lib.hid hN
          clear hN hm2
          go_wp2_with ((with_reducible refine at_list ?_); first | refine wpList_load_blk rfl 37 _ rfl _ rfl _ _ _ (QG) Try.underlying37 rfl rg_info ?_ | (refine wpList_store_own rfl 37 _ _ rfl _ (rgv _ s) rfl rfl _ _ (Q0) rg_info rfl (rgv_one _ _) ?_; intro w7 B7 g7) | (refine wpList_store_own rfl 37 _ _ rfl _ (rgv reg0 (none, 0, 0)) rfl rfl _ _ (Q2.grown g7 (fun e => by have := Option.some.inj e; omega)) rg_info rfl (rgv_one _ _) ?_; intro w8 B8 g8))
          have hw7 := hw6.trans (below_grown g7 (Nat.le_refl _) hz6)
          have hw8 := hw7.trans (below_grown g8 (by omega) hw7.size)
          apply ret_of
          · exact results_blk_tmp rfl _ _ _ _ _ _ rfl (B8) Try.underlying37 rfl rg_info _ rfl
          · exact ⟨rfl, AppP.no HN.out rfl hw8⟩
        | true =>
          have hN : applyR r x.s = some ⟨x.epoch, x.view, x.ents, x.len⟩ := by rw [HA.out, if_pos ⟨HP.out, hm2⟩]
          have HN := Lib.hid hN
          clear hN hm2
          go_wp2_with ((with_reducible refine at_list ?_); first | refine wpList_load_blk rfl 37 _ rfl _ rfl _ _ _ (QG) Try.underlying37 rfl rg_info ?_ | (refine wpList_store_own rfl 37 _ _ rfl _ (rgv _ s) rfl rfl _ _ (Q0) rg_info rfl (rgv_one _ _) ?_; intro w7 B7 g7) | refine wpList_load_blk rfl 37 _ rfl _ rfl _ _ _ (B7) Try.underlying37 rfl rg_info ?_ | (refine wpList_store_own rfl 37 _ _ rfl _ (rgv _ s) rfl rfl _ _ (Q2.grown g7 (fun e => by have := Option.some.inj e; omega)) rg_info rfl (rgv_one _ _) ?_; intro w8 B8 g8))
          have hw7 := hw6.trans (below_grown g7 (Nat.le_refl _) hz6)
          have hw8 := hw7.trans (below_grown g8 (by omega) hw7.size)
          have hs7 := hs6.apart (Nat.le_refl _) g7 (fun b o h => by have := hwh b o h; omega)
          have hs8 := hs7.apart (Nat.le_refl _) g8 (fun b o h => by have := hwh b o h; omega)
          apply ret_of
          · exact results_blk_tmp rfl _ _ _ _ _ _ rfl (B8) Try.underlying37 rfl rg_info _ rfl
          · exact ⟨rfl, AppP.yes HN.out s rfl hs8 (fun b o h => by have := hwh b o h; omega) hw8⟩
      · have hpb : (r.prom == 0) = false := by rw [beq_eq_false_iff_ne]; exact hp
        have hN : applyR r x.s = none := by rw [HA.out, if_neg (fun h => hp h.1)]
        have HN := Lib.hid hN
        clear hN hp
        go_wp2_with ((with_reducible refine at_list ?_); first | refine wpList_load_blk rfl 37 _ rfl _ rfl _ _ _ (PG) Try.underlying37 rfl rg_info ?_ | (refine wpList_store_own rfl 37 _ _ rfl _ (rgv _ s) rfl rfl _ _ (P0) rg_info rfl (rgv_one _ _) ?_; intro w7 B7 g7) | (refine wpList_store_own rfl 37 _ _ rfl _ (rgv reg0 (none, 0, 0)) rfl rfl _ _ (P2.grown g7 (fun e => by have := Option.some.inj e; omega)) rg_info rfl (rgv_one _ _) ?_; intro w8 B8 g8))
        have hw7 := hw5.trans (below_grown g7 (Nat.le_refl _) hz5)
        have hw8 := hw7.trans (below_grown g8 (by omega) hw7.size)
        apply ret_of
        · exact results_blk_tmp rfl _ _ _ _ _ _ rfl (B8) Try.underlying37 rfl rg_info _ rfl
        · exact ⟨rfl, AppP.no HN.out rfl hw8⟩
  have HN := Lib.hid (apply_else (r := r) (x := x.s) k1 k2 k3 k4)
  have b1 : (x.kind == 1) = false := by rw [beq_eq_false_iff_ne]; exact k1
  have b2 : (x.kind == 2) = false := by rw [beq_eq_false_iff_ne]; exact k2
  have b3 : (x.kind == 3) = false := by rw [beq_eq_false_iff_ne]; exact k3
  have b4 : (x.kind == 4) = false := by rw [beq_eq_false_iff_ne]; exact k4
  go_wp2_with ((with_reducible refine at_list ?_); (refine wpList_store_own rfl 37 _ _ rfl _ (rgv reg0 (none, 0, 0)) rfl rfl _ _ (E2) rg_info rfl (rgv_one _ _) ?_; intro w8 B8 g8))
  have hw8 := hw3.trans (below_grown g8 (by omega) hz3)
  apply ret_of
  · exact results_blk_tmp rfl _ _ _ _ _ _ rfl (B8) Try.underlying37 rfl rg_info _ rfl
  · exact ⟨rfl, AppP.no HN.out rfl hw8⟩

theorem apply_any (r : RegS) (sl : SlcE) (x : RecV) (w : World) (hl : LogAt w w.heap.size sl r.log) (hx : LogAt w w.heap.size x.es x.ents) (hx2 : x.ents.length ≤ 1000) :
    Calls Try.prog 17 #[.agg (rgv r sl).toArray, .agg (rcv x).toArray] w (AppP r x.s w) := by
  cases hm : mayR r with
  | false => exact apply_off r sl x w hm hl
  | true => exact apply_on r sl x w hm hl hx hx2
end Go.Proofs.Ytdphfhenjndkkaa

set_option linter.unusedSimpArgs false
set_option linter.unusedVariables false
set_option maxRecDepth 100000
namespace Go.Proofs.Ytdphfhenjndkkaa
open Go Go.RowKit Go.Sq Go.Wd Go.Arch

set_option maxHeartbeats 4000000 in
theorem may_any (r : RegS) (sl : SlcE) (x : RecV) (w : World) (hl : LogAt w w.heap.size sl r.log) (hx : LogAt w w.heap.size x.es x.ents) (hx2 : x.ents.length ≤ 1000) :
    Calls Try.prog 64 #[.agg (rgv r sl).toArray, .agg (rcv x).toArray] w fun e w' => e = .returned (.bool (applyR r x.s).isSome) ∧ Below w.heap.size w w' := by
  have hz : Below w.heap.size w ((w.alloc (.cells (rgv r sl).toArray 37)).alloc (.cells (rcv x).toArray 53)) := ((Below.refl _ _).alloc (Nat.le_refl _) _).alloc (by simp) _
  have B0 : Blk ((w.alloc (.cells (rgv r sl).toArray 37)).alloc (.cells (rcv x).toArray 53)) w.heap.size 37 (rgv r sl) := (Blk.new w _ _).alloc _
  have B1 : Blk ((w.alloc (.cells (rgv r sl).toArray 37)).alloc (.cells (rcv x).toArray 53)) (w.heap.size + 1) 53 (rcv x) := Blk.newAt _ _ _ (by simp)
  have HH := Lib.hid (And.intro hz (And.intro B0 (And.intro B1 (And.intro (hl.keep hz) (hx.keep hz)))))
  clear hz B0 B1 hl hx
  have hr : (regR (applyR r x.s)).2 = (applyR r x.s).isSome := by cases applyR r x.s <;> rfl
  have HR := Lib.hid hr
  clear hr
  go_enter Try.func64, Try.ntmps64
  go_wp2_with ((with_reducible refine at_list ?_); first | refine wpList_load_blk rfl 37 _ rfl _ rfl _ _ _ (HH.out.2.1) Try.underlying37 rfl rg_info ?_ | refine wpList_load_blk rfl 53 _ rfl _ rfl _ _ _ (HH.out.2.2.1) Try.underlying53 rfl rc_info ?_)
  refine (apply_any r sl x _ HH.out.2.2.2.1 HH.out.2.2.2.2 hx2).mono ?_
  rintro e w1 ⟨s, rfl, hL, hb⟩
  have hw1 := below_trans HH.out.1 hb HH.out.1.size
  have hz1 := hw1.size
  clear hb hL HH
  go_wp2_with ((with_reducible refine at_list ?_); (refine wpList_store_own rfl 37 _ _ rfl _ (rgv _ s) rfl rfl _ _ (Blk.new w1 37 (rgv reg0 (none, 0, 0))) rg_info rfl (rgv_one _ _) ?_; intro w8 B8 g8))
  have hw8 := (hw1.alloc hz1 (.cells (rgv reg0 (none, 0, 0)).toArray 37)).trans (below_grown g8 hz1 (by simp; omega))
  go_ret
  rw [HR.out]
  exact ⟨rfl, hw8⟩
end Go.Proofs.Ytdphfhenjndkkaa

set_option linter.unusedSimpArgs false
set_option linter.unusedVariables false
set_option maxRecDepth 100000
namespace Go.Proofs.Ytdphfhenjndkkaa
open Go Go.RowKit Go.Sq Go.Wd Go.Arch

set_option maxHeartbeats 4000000 in
theorem samereg_any (r q : RegS) (sl sq : SlcE) (w : World) (hl : LogAt w w.heap.size sl r.log) (hq : LogAt w w.heap.size sq q.log) (he : r = q) :
    Calls Try.prog 21 #[.agg (rgv r sl).toArray, .agg (rgv q sq).toArray] w fun e w' => e = .returned (.bool true) ∧ Below w.heap.size w w' := by
  subst he
  obtain ⟨A, n, c⟩ := sl
  obtain ⟨B, m, d⟩ := sq
  obtain rfl : n = r.log.length := hl.1
  obtain rfl : m = r.log.length := hq.1
  have hle : r.log.length ≤ 9223372036854775807 := Nat.le_trans hl.2.1 hl.2.2.1
  have hz : Below w.heap.size w ((w.alloc (.cells (rgv r (A, r.log.length, c)).toArray 37)).alloc (.cells (rgv r (B, r.log.length, d)).toArray 37)) := ((Below.refl _ _).alloc (Nat.le_refl _) _).alloc (by simp) _
  have hs := same_any r.log r.log A B c d _ (hl.keep hz).2.2.2 (hq.keep hz).2.2.2 hle hle
  have HH := Lib.hid (And.intro hz hs)
  clear hz hs hl hq
  unfold rgv at HH ⊢
  go_enter Try.func21, Try.ntmps21
  go_wp2_with fail
  refine HH.out.2.mono ?_
  rintro e w1 ⟨rfl, hb⟩
  have hw1 := below_trans HH.out.1 hb HH.out.1.size
  clear hb HH
  go_wp2_with fail
  go_ret
  exact ⟨by simp, hw1⟩
end Go.Proofs.Ytdphfhenjndkkaa

set_option linter.unusedSimpArgs false
set_option linter.unusedVariables false
set_option maxRecDepth 100000
namespace Go.Proofs.Ytdphfhenjndkkaa
open Go Go.RowKit Go.Sq Go.Wd Go.Arch

theorem wp_store_own {P : Program} {w : World} {o : Oper} {a : Act} {K : Act → World → Prop} {Q : Exit → Act → World → Prop} (ty : TypeId) (x y : Operand) (ho : o.op = .store ty x y)
    (g : Nat) (cs : List Value) (hx : a.eval x = .pointer (some ⟨g, 0, none⟩)) (hy : a.eval y = .agg cs.toArray) (t : TypeId) (old : List Value) (hg : Blk w g t old)
    (hi : (P.info? ty).map (·.size) = some cs.length) (hold : old.length = cs.length) (h1 : ∀ v ∈ cs, v.oneCell' = true)
    (h : ∀ w', Blk w' g t cs → w.grownBy w' (some g) → K (a.put o.dst undef) w') : o.wp P a w K Q :=
  wp_store_row ty x y ho g cs.toArray hx hy t old.toArray hg (by simpa using hi) (by simpa using hold)
    (Array.all_eq_true_iff_forall_mem.2 (fun v hv => h1 v (by simpa using hv)))
    (h _ (hg.row cs) (grown_setRow w g _))
/-- A log does not lie in a block that is shorter than an entry. -/
theorem LogAt.stored {w w' : World} {g : Nat} {T : TypeId} {cs : List Value} {sl : SlcE} {l : List Ent} (h : LogAt w w.heap.size sl l) (hZ : Blk w g T cs) (hc : cs.length ≤ 5) (hg : w.grownBy w' (some g)) : LogAt w' w'.heap.size sl l := by
  rcases Nat.eq_zero_or_pos l.length with h0 | h0
  · obtain rfl : l = [] := List.eq_nil_of_length_eq_zero h0
    exact ⟨h.1, h.2.1, h.2.2.1, Ents.nil⟩
  · refine h.apart (Nat.le_refl _) hg (fun b o ho hbg => ?_)
    subst hbg
    obtain ⟨b2, off, ha, hb, hE⟩ := h.2.2.2 h0
    rw [ho] at ha
    cases ha
    obtain ⟨_, _, _, _, _, h5⟩ := hE 0 _ (List.getElem?_eq_getElem h0)
    rw [hZ.cell, List.getElem?_eq_none (by omega)] at h5
    cases h5
/-- Blocks that hold registers. -/
def HeldR (w : World) (L : List (Nat × RegS × SlcE)) : Prop := ∀ q ∈ L, Blk w q.1 37 (rgv q.2.1 q.2.2) ∧ LogAt w w.heap.size q.2.2 q.2.1.log
theorem HeldR.nil {w : World} : HeldR w [] := by intro q hq; cases hq
theorem HeldR.add {w : World} {L : List (Nat × RegS × SlcE)} {g : Nat} {r : RegS} {s : SlcE} (h : HeldR w L) (hb : Blk w g 37 (rgv r s)) (hl : LogAt w w.heap.size s r.log) : HeldR w ((g, r, s) :: L) := by
  intro q hq
  rcases List.mem_cons.1 hq with rfl | hq
  · exact ⟨hb, hl⟩
  · exact h q hq
theorem HeldR.keep {w w' : World} {L : List (Nat × RegS × SlcE)} (h : HeldR w L) (hb : Below w.heap.size w w') : HeldR w' L := fun q hq => ⟨(h q hq).1.keep hb, (h q hq).2.keep hb⟩
theorem HeldR.drew {w : World} {L : List (Nat × RegS × SlcE)} (h : HeldR w L) : HeldR w.drew L := h.keep (Below.refl _ _).drew
theorem HeldR.blk {w : World} {L : List (Nat × RegS × SlcE)} (h : HeldR w L) (k : Nat) {q : Nat × RegS × SlcE} (hq : L[k]? = some q) : Blk w q.1 37 (rgv q.2.1 q.2.2) := (h q (List.mem_of_getElem? hq)).1
theorem HeldR.log {w : World} {L : List (Nat × RegS × SlcE)} (h : HeldR w L) (k : Nat) {q : Nat × RegS × SlcE} (hq : L[k]? = some q) : LogAt w w.heap.size q.2.2 q.2.1.log := (h q (List.mem_of_getElem? hq)).2

/-- A new variable that holds what was told. -/
theorem below_new {w w' : World} {o : Obj} (hg : (w.alloc o).grownBy w' (some w.heap.size)) : Below w.heap.size w w' := ((Below.refl _ _).alloc (Nat.le_refl _) o).trans (below_grown hg (Nat.le_refl _) (by simp))

/-- A continuation of a drawn region's step, with the world behind a letter. -/
theorem eff_abs {K' : Act → World → Prop} {T : World → Prop} {W : Act → World → Prop} {a : Act} {w1 : World} (hKE : ∀ a' w', T w' → W a' w' → K' a' w') (J : World → Prop) (hJ : J w1) (hT : ∀ w', J w' → T w') (h : ∀ w', J w' → W a w') : K' a w1 := hKE _ _ (hT _ hJ) (h _ hJ)
theorem merge3 {G : Prop} (Inv : Nat → Nat → SlcE → World → Prop) (K : Act → World → Prop) {F : Nat → Nat → SlcE → Act} (h1 : (∀ g k s w', Inv g k s w' → K (F g k s) w') → G) (h2 : ∀ g k s w', Inv g k s w' → K (F g k s) w') : G := h1 h2

theorem apply_to {r a : RegS} (sl : SlcE) (x : RecV) (w : World) (h : applyR r x.s = some a) (hl : LogAt w w.heap.size sl r.log) (hx : LogAt w w.heap.size x.es x.ents) (hx2 : x.ents.length ≤ 1000) :
    Calls Try.prog 17 #[.agg (rgv r sl).toArray, .agg (rcv x).toArray] w fun e w' => ∃ s : SlcE, e = .returned (.tuple #[.agg (rgv a s).toArray, .bool true]) ∧ LogAt w' w'.heap.size s a.log ∧ Below w.heap.size w w' := by
  refine (apply_any r sl x w hl hx hx2).mono ?_
  rintro e w1 ⟨s, he, hL, hb⟩
  rw [h] at he hL
  exact ⟨s, he, hL.1, hb⟩
/-- And it lies in memory of its own. -/
theorem apply_own {r a : RegS} (sl : SlcE) (x : RecV) (w : World) (h : applyR r x.s = some a) (hl : LogAt w w.heap.size sl r.log) (hx : LogAt w w.heap.size x.es x.ents) (hx2 : x.ents.length ≤ 1000) :
    Calls Try.prog 17 #[.agg (rgv r sl).toArray, .agg (rcv x).toArray] w fun e w' => ∃ s : SlcE, e = .returned (.tuple #[.agg (rgv a s).toArray, .bool true]) ∧ (LogAt w' w'.heap.size s a.log ∧ ∀ b o, s.1 = some ⟨b, o, none⟩ → w.heap.size ≤ b) ∧ Below w.heap.size w w' := by
  refine (apply_any r sl x w hl hx hx2).mono ?_
  rintro e w1 ⟨s, he, hL, hb⟩
  rw [h] at he hL
  exact ⟨s, he, hL, hb⟩
theorem may_to {r : RegS} (b : Bool) (sl : SlcE) (x : RecV) (w : World) (h : (applyR r x.s).isSome = b) (hl : LogAt w w.heap.size sl r.log) (hx : LogAt w w.heap.size x.es x.ents) (hx2 : x.ents.length ≤ 1000) :
    Calls Try.prog 64 #[.agg (rgv r sl).toArray, .agg (rcv x).toArray] w fun e w' => e = .returned (.bool b) ∧ Below w.heap.size w w' := by
  rw [← h]
  exact may_any r sl x w hl hx hx2

/-- One literal entry. -/
theorem lit_log (w : World) (e : Ent) : LogAt (w.alloc (.cells (vals e).toArray 64)) (w.alloc (.cells (vals e).toArray 64)).heap.size (some ⟨w.heap.size, 0, none⟩, 1, 1) [e] := by
  have hb := Blk.new w 64 (vals e)
  refine ⟨rfl, Nat.le_refl _, by simp, fun _ => ⟨_, 0, rfl, hb.lt, fun i x hx => ?_⟩⟩
  have hi := (List.getElem?_eq_some_iff.1 hx).1
  obtain rfl : i = 0 := by simpa using hi
  cases hx
  exact ⟨hb.cell 0, hb.cell 1, hb.cell 2, hb.cell 3, hb.cell 4, hb.cell 5⟩
end Go.Proofs.Ytdphfhenjndkkaa

set_option linter.unusedSimpArgs false
set_option linter.unusedVariables false
set_option maxRecDepth 100000
namespace Go.Im
open Go Go.RowKit Go.MapKept Go.Maps

/-- How a value is held. -/
def heldR (v : Value) : Option (DataW Value × List MemPlace) := some (DataW.held v, [])

/-- THE MAP IN BLOCK m, OF INT KEYS, IS G (of at most n entries). -/
def IMap (P : Program) (k : TypeId) (w : World) (m n : Nat) (G : Int → Option Value) : Prop :=
  ∃ D, w.ownsMap P k heldR m n D ∧ ∀ a, Maps.has D (.int .i64 a) = (G a).isSome ∧ ∀ v, G a = some v → ∀ z, D.atKey (.int .i64 a) z = DataW.held v

/-- G with v at a. -/
def upd (G : Int → Option Value) (a : Int) (v : Value) : Int → Option Value := fun x => if x = a then some v else G x
/-- G without a. -/
def cut (G : Int → Option Value) (a : Int) : Int → Option Value := fun x => if x = a then none else G x

section
variable {P : Program} {k t e : TypeId} {w : World} {m n : Nat} {G : Int → Option Value}

theorem IMap.of_block (h : IMap P k w m n G) {w' : World} (hb : w'.heap[m]? = w.heap[m]?) : IMap P k w' m n G := by
  obtain ⟨D, ⟨es, clock, h1, r⟩, hG⟩ := h
  exact ⟨D, ⟨es, clock, hb.trans h1, r⟩, hG⟩

theorem IMap.lt (h : IMap P k w m n G) : m < w.heap.size := by
  obtain ⟨D, h1, _⟩ := h
  exact h1.lt

theorem IMap.mono (h : IMap P k w m n G) {n' : Nat} (hn : n ≤ n') : IMap P k w m n' G := by
  obtain ⟨D, h1, hG⟩ := h
  exact ⟨D, h1.mono hn, hG⟩

theorem IMap.below (h : IMap P k w m n G) {B : Nat} {w' : World} (hB : Below B w w') (hm : m < B) : IMap P k w' m n G :=
  h.of_block (hB.block m hm)

theorem IMap.alloc (h : IMap P k w m n G) (o : Obj) : IMap P k (w.alloc o) m n G := by
  obtain ⟨D, h1, hG⟩ := h
  exact ⟨D, h1.alloc o, hG⟩

theorem IMap.setCell (h : IMap P k w m n G) {a : Addr} (ha : m ≠ a.block) (u : Value) : IMap P k (w.setCell a u) m n G := by
  obtain ⟨D, h1, hG⟩ := h
  exact ⟨D, h1.setCell ha u, hG⟩

theorem IMap.drew (h : IMap P k w m n G) : IMap P k w.drew m n G := h

theorem IMap.made (P : Program) (k : TypeId) (w : World) : IMap P k (w.alloc (.map #[] 0)) w.heap.size 0 (fun _ => none) :=
  ⟨.map [], World.ownsMap_made w P k heldR, fun a => ⟨rfl, fun v h => by cases h⟩⟩

theorem IMap.look_ok (h : IMap P k w m n G) (hk : P.underlying k = some (.int .i64)) (ht : P.underlying t = some (.map k e)) {z : Value} (hz : (zeroValue e).run P w = .ok z w)
    {a : Int} (ha : (Lit.int .i64 a).wf = true) : (Instr.lookup t (.map (some m)) (.int .i64 a) true).run P w = .ok (.tuple #[(G a).getD z, .bool (G a).isSome]) w := by
  obtain ⟨D, h1, hG⟩ := h
  obtain ⟨v, ps, hrun, hv⟩ := h1.look_ok (int_keyed hk) ht hz (zd := DataW.held z) (zp := []) rfl (keyOf_int_mk hk ha)
  rw [hrun, (hG a).1]
  have e1 : DataW.held v = D.atKey (.int .i64 a) (.held z) := by
    have := congrArg (Option.map Prod.fst) hv
    simpa [heldR] using this
  cases hg : G a with
  | none =>
    have e2 := Maps.atKey_of_not_has (D := D) (k := .int .i64 a) (by rw [(hG a).1, hg]; rfl) (DataW.held z)
    rw [e2] at e1
    cases e1
    rfl
  | some x =>
    rw [(hG a).2 x hg] at e1
    cases e1
    rfl

theorem IMap.look (h : IMap P k w m n G) (hk : P.underlying k = some (.int .i64)) (ht : P.underlying t = some (.map k e)) {z : Value} (hz : (zeroValue e).run P w = .ok z w)
    {a : Int} (ha : (Lit.int .i64 a).wf = true) : (Instr.lookup t (.map (some m)) (.int .i64 a) false).run P w = .ok ((G a).getD z) w := by
  obtain ⟨D, h1, hG⟩ := h
  obtain ⟨v, ps, hrun, hv⟩ := h1.lookup (int_keyed hk) ht hz (zd := DataW.held z) (zp := []) rfl (keyOf_int_mk hk ha)
  rw [hrun]
  have e1 : DataW.held v = D.atKey (.int .i64 a) (.held z) := by
    have := congrArg (Option.map Prod.fst) hv
    simpa [heldR] using this
  cases hg : G a with
  | none =>
    have e2 := Maps.atKey_of_not_has (D := D) (k := .int .i64 a) (by rw [(hG a).1, hg]; rfl) (DataW.held z)
    rw [e2] at e1
    cases e1
    rfl
  | some x =>
    rw [(hG a).2 x hg] at e1
    cases e1
    rfl

theorem isKey_int (a : Int) : WideAt.IsKeyLit (.int .i64 a) := by trivial

theorem IMap.store (h : IMap P k w m n G) (hk : P.underlying k = some (.int .i64)) (ht : P.underlying t = some (.map k e)) (hn : n < maxLen)
    {a : Int} (ha : (Lit.int .i64 a).wf = true) (v : Value) :
    ∃ w', (Instr.mapUpdate t (.map (some m)) (.int .i64 a) v).run P w = .ok () w' ∧ IMap P k w' m (n + 1) (upd G a v) ∧ w.mapTurned w' m := by
  obtain ⟨D, h1, hG⟩ := h
  obtain ⟨w', hrun, h2, h3⟩ := h1.store (int_keyed hk) ht hn (d := DataW.held v) (ps := []) (keyOf_int_mk hk ha) rfl
  refine ⟨w', hrun, ⟨_, h2, fun x => ?_⟩, h3⟩
  by_cases hx : x = a
  · subst hx
    refine ⟨?_, fun y hy z => ?_⟩
    · rw [Maps.has_put_same h1.isMap (isKey_int x)]; simp [upd]
    · rw [Maps.atKey_put_same h1.isMap (isKey_int x)]; simp [upd] at hy; rw [hy]
  · have hne : (Lit.int .i64 x) ≠ Lit.int .i64 a := fun e => hx (by cases e; rfl)
    refine ⟨?_, fun y hy z => ?_⟩
    · rw [Maps.has_put_other hne]; simp [upd, hx, (hG x).1]
    · rw [Maps.atKey_put_other hne]
      exact (hG x).2 y (by simpa [upd, hx] using hy) z

theorem IMap.drop (h : IMap P k w m n G) (hk : P.underlying k = some (.int .i64)) (ht : P.underlying t = some (.map k e))
    {a : Int} (ha : (Lit.int .i64 a).wf = true) (ty : TypeId) :
    ∃ w', (Builtin.delete_ #[t, k] ty #[.map (some m), .int .i64 a]).run P w = .ok (.tuple #[]) w' ∧ IMap P k w' m n (cut G a) ∧ w.mapTurned w' m := by
  obtain ⟨D, h1, hG⟩ := h
  obtain ⟨w', hrun, h2, h3⟩ := h1.drop (int_keyed hk) ht (keyOf_int_mk hk ha) ty
  refine ⟨w', hrun, ⟨_, h2, fun x => ?_⟩, h3⟩
  by_cases hx : x = a
  · subst hx
    refine ⟨?_, fun y hy z => ?_⟩
    · rw [Maps.has_del_same]; simp [cut]
    · simp [cut] at hy
  · have hne : (Lit.int .i64 x) ≠ Lit.int .i64 a := fun e => hx (by cases e; rfl)
    refine ⟨?_, fun y hy z => ?_⟩
    · rw [Maps.has_del_other hne]; simp [cut, hx, (hG x).1]
    · rw [Maps.atKey_del_other hne]
      exact (hG x).2 y (by simpa [cut, hx] using hy) z

end
end Go.Im

set_option linter.unusedSimpArgs false
set_option linter.unusedVariables false
set_option maxRecDepth 100000
namespace Go.Proofs.Ytdphfhenjndkkaa
open Go.RowKit Go.Sq Go.Im

/-- When a grant of a tick is over. -/
def afterS (now : Int) : Int := if now > 1073741824 then now else now + 16

theorem after_any (now : Int) (h0 : -9223372036854775808 ≤ now) (w : World) : Calls Try.prog 35 #[.int .i64 now] w fun e w' => e = .returned (.int .i64 (afterS now)) ∧ w' = w := by
  go_enter Try.func35, Try.ntmps35
  go_wp2
  all_goals (go_ret; refine ⟨ret_int ?_, rfl⟩)
  all_goals (simp [afterS] at *)
  all_goals (try omega)

/-- THE BOOK in block b: made, its grace, its map. -/
def Bk (w : World) (b m n : Nat) (gr : Int) (G : Int → Option (Int × Int)) : Prop :=
  w.cell? ⟨b, 0, none⟩ = some (.bool true) ∧ w.cell? ⟨b, 1, none⟩ = some (.int .i64 gr) ∧ w.cell? ⟨b, 2, none⟩ = some (.map (some m)) ∧
    IMap Try.prog 3 w m n (fun a => (G a).map fun g => .agg #[.int .i64 g.1, .int .i64 g.2])

theorem grown_drew {a b : World} {row : Option Nat} (h : a.grownBy b row) : a.grownBy b.drew row := ⟨h.os, h.tape, h.output, h.size, h.block⟩

theorem Bk.ne {w : World} {b m n : Nat} {gr : Int} {G : Int → Option (Int × Int)} (h : Bk w b m n gr G) : b ≠ m := by
  obtain ⟨h1, _, _, D, ⟨es, clock, hb, _⟩, _⟩ := h
  rintro rfl
  simp [World.cell?, hb] at h1

/-- A book stays what it is while other blocks turn. -/
theorem Bk.kept {w w' : World} {b m n : Nat} {gr : Int} {G : Int → Option (Int × Int)} (h : Bk w b m n gr G) {x : Option Nat} (hg : w.grownBy w' x) (h1 : some b ≠ x) (h2 : some m ≠ x) : Bk w' b m n gr G :=
  ⟨hg.cell h.1 h1, hg.cell h.2.1 h1, hg.cell h.2.2.1 h1, h.2.2.2.of_block (hg.block m h.2.2.2.lt h2)⟩

theorem Bk.mono {w : World} {b m n n' : Nat} {gr : Int} {G : Int → Option (Int × Int)} (h : Bk w b m n gr G) (hn : n ≤ n') : Bk w b m n' gr G :=
  ⟨h.1, h.2.1, h.2.2.1, h.2.2.2.mono hn⟩

/-- Behind a store. -/
theorem Bk.stored {w w' : World} {b m n n' : Nat} {gr : Int} {G G' : Int → Option (Int × Int)} (h : Bk w b m n gr G) (hg : w.grownBy w' (some m))
    (hm : IMap Try.prog 3 w' m n' (fun a => (G' a).map fun g => .agg #[.int .i64 g.1, .int .i64 g.2])) : Bk w' b m n' gr G' :=
  have hne : some b ≠ some m := fun e => h.ne (Option.some.inj e)
  ⟨hg.cell h.1 hne, hg.cell h.2.1 hne, hg.cell h.2.2.1 hne, hm⟩

theorem none_nil (w : World) : Calls Try.prog 69 #[.pointer none] w fun e w' => e = .returned (.bool true) ∧ w' = w := by
  go_enter Try.func69, Try.ntmps69
  go_wp2
  go_ret
  exact ⟨rfl, rfl⟩

theorem none_book (b : Nat) (m : Bool) (w : World) (h : w.cell? ⟨b, 0, none⟩ = some (.bool m)) : Calls Try.prog 69 #[.pointer (some ⟨b, 0, none⟩)] w fun e w' => e = .returned (.bool (!m)) ∧ w' = w := by
  go_enter Try.func69, Try.ntmps69
  go_wp2
  go_ret
  exact ⟨rfl, rfl⟩

theorem zero_grant (w : World) : (zeroValue 127).run Try.prog w = .ok (.agg #[.int .i64 0, .int .i64 0]) w := by kernel_rfl

/-- May. -/
def mayL (gr : Int) (G : Option (Int × Int)) (ep now : Int) : Bool :=
  if now < gr then false else match G with
    | none => true
    | some g => decide (g.2 ≤ now) || decide (ep = g.1)

theorem lmay_any (b m n : Nat) (gr : Int) (G : Int → Option (Int × Int)) (s ep now : Int) (hs : (Lit.int .i64 s).wf = true) (w : World) (h : Bk w b m n gr G) :
    Calls Try.prog 63 #[.pointer (some ⟨b, 0, none⟩), .int .i64 s, .int .i64 ep, .int .i64 now] w fun e w' => e = .returned (.bool (mayL gr (G s) ep now)) ∧ Below w.heap.size w w' := by
  obtain ⟨h1, h2, h3, hm⟩ := h
  have hl := hm.look_ok Try.underlying3 Try.underlying90 (zero_grant w) hs
  go_enter Try.func63, Try.ntmps63
  go_wp2_with fail
  refine (none_book b true _ h1).mono ?_
  rintro e w1 ⟨rfl, rfl⟩
  by_cases hg : now < gr
  · go_wp2_with fail
    go_ret
    refine ⟨ret_bool ?_, by (repeat (first | with_reducible apply Below.drew | with_reducible refine Below.setCell ?_ (by first | exact Nat.le_refl _ | (simp; done) | (simp; omega) | omega) _ | with_reducible refine Below.alloc ?_ (by first | exact Nat.le_refl _ | (simp; done) | (simp; omega) | omega) _ | with_reducible exact Below.refl _ _ | with_reducible assumption))⟩
    simp [mayL, hg]
  cases hG : G s with
  | none =>
    simp only [hG, Option.map_none, Option.getD_none, Option.isSome_none] at hl
    go_wp2_with fail
    go_ret
    refine ⟨ret_bool ?_, by (repeat (first | with_reducible apply Below.drew | with_reducible refine Below.setCell ?_ (by first | exact Nat.le_refl _ | (simp; done) | (simp; omega) | omega) _ | with_reducible refine Below.alloc ?_ (by first | exact Nat.le_refl _ | (simp; done) | (simp; omega) | omega) _ | with_reducible exact Below.refl _ _ | with_reducible assumption))⟩
    simp [mayL, hg, hG]
  | some g =>
    simp only [hG, Option.map_some, Option.getD_some, Option.isSome_some] at hl
    go_wp2_with fail
    all_goals (go_ret; refine ⟨ret_bool ?_, by (repeat (first | with_reducible apply Below.drew | with_reducible refine Below.setCell ?_ (by first | exact Nat.le_refl _ | (simp; done) | (simp; omega) | omega) _ | with_reducible refine Below.alloc ?_ (by first | exact Nat.le_refl _ | (simp; done) | (simp; omega) | omega) _ | with_reducible exact Below.refl _ _ | with_reducible assumption))⟩)
    all_goals (have hgg : ¬ now < gr := by omega)
    all_goals (simp only [mayL, hgg, hG, if_false])
    all_goals (rw [Bool.eq_iff_iff]; simp [*])

/-- Holder. -/
def holdL (G : Option (Int × Int)) (now : Int) : Int × Bool :=
  match G with
    | none => (0, false)
    | some g => if g.2 ≤ now then (0, false) else (g.1, true)

/-- What a call on a book leaves as it was: all memory but the map's entries. -/
def But (m : Nat) (w w' : World) : Prop := w.grownBy w' (some m)

/-- Grant. -/
def grantE (s ep : Int) : Int := if s < 0 ∨ 4 ≤ s ∨ ep < 1 then 2 else 0

def grantG (G : Option (Int × Int)) (ep now : Int) : Option (Int × Int) :=
  if (G.getD (0, 0)).1 < ep then some (ep, afterS now) else if ep = (G.getD (0, 0)).1 then some (ep, max (G.getD (0, 0)).2 (afterS now)) else G

def grantL (G : Int → Option (Int × Int)) (s ep now : Int) : Int → Option (Int × Int) :=
  fun x => if x = s ∧ grantE s ep = 0 then grantG (G s) ep now else G x

theorem grantL_bad {G : Int → Option (Int × Int)} {s ep now : Int} (h : s < 0 ∨ 4 ≤ s ∨ ep < 1) : grantL G s ep now = G := by
  funext x
  simp [grantL, grantE, h]

theorem grantL_none {G : Int → Option (Int × Int)} {s ep now : Int} (h : ep < ((G s).getD (0, 0)).1) : grantL G s ep now = G := by
  funext x
  by_cases hx : x = s
  · subst hx
    have h1 : ¬ ((G x).getD (0, 0)).1 < ep := by omega
    have h2 : ¬ ep = ((G x).getD (0, 0)).1 := by omega
    simp [grantL, grantG, h1, h2]
  · simp [grantL, hx]

theorem getD_map (o : Option (Int × Int)) : (o.map fun g => Value.agg #[.int .i64 g.1, .int .i64 g.2]).getD (.agg #[.int .i64 0, .int .i64 0]) = .agg #[.int .i64 (o.getD (0, 0)).1, .int .i64 (o.getD (0, 0)).2] := by
  cases o <;> rfl

theorem upd_map {G G' : Int → Option (Int × Int)} {s a c : Int} (h : ∀ x, G' x = if x = s then some (a, c) else G x) :
    upd (fun a => (G a).map fun g => Value.agg #[.int .i64 g.1, .int .i64 g.2]) s (.agg #[.int .i64 a, .int .i64 c]) = fun a => (G' a).map fun g => Value.agg #[.int .i64 g.1, .int .i64 g.2] := by
  funext x
  simp only [upd, h]
  split <;> rfl

set_option maxHeartbeats 2000000 in
theorem lgrant_any (b m n : Nat) (hn : n < maxLen) (gr : Int) (G : Int → Option (Int × Int)) (s ep now : Int) (hs : (Lit.int .i64 s).wf = true) (h0 : -9223372036854775808 ≤ now) (w : World) (h : Bk w b m n gr G) :
    Calls Try.prog 66 #[.pointer (some ⟨b, 0, none⟩), .int .i64 s, .int .i64 ep, .int .i64 now] w fun e w' => e = .returned (.int .i64 (grantE s ep)) ∧ Bk w' b m (n + 1) gr (grantL G s ep now) ∧ But m w w' := by
  have hbk := h
  obtain ⟨h1, h2, h3, hm⟩ := h
  have hl := hm.look Try.underlying3 Try.underlying90 (zero_grant w) hs
  simp only [getD_map] at hl
  go_enter Try.func66, Try.ntmps66
  go_wp2_with fail
  refine (none_book b true _ h1).mono ?_
  rintro e w1 ⟨rfl, rfl⟩
  by_cases hb : s < 0 ∨ 4 ≤ s ∨ ep < 1
  · have hb1 : (decide (s < 0) || decide (4 ≤ s) || decide (ep < 1)) = true := by simpa [or_assoc] using hb
    go_wp2_with fail
    all_goals (go_ret; refine ⟨ret_int (by simp [grantE, hb]), ?_, ?_⟩)
    all_goals (first | (rw [grantL_bad hb]; exact ⟨h1, h2, h3, hm.mono (by omega)⟩) | exact World.grownBy.refl _ _)
  · have hb1 : (decide (s < 0) || decide (4 ≤ s) || decide (ep < 1)) = false := by
      simp only [Bool.or_eq_false_iff, decide_eq_false_iff_not]; omega
    have hE : grantE s ep = 0 := by simp [grantE, hb]
    have hlt := hm.lt
    have hbm := hbk.ne
    by_cases hc1 : ((G s).getD (0, 0)).1 < ep
    · go_wp2_with fail
      have hW : w1.grownBy (w1.alloc (.cells #[.int .i64 ((G s).getD (0, 0)).1, .int .i64 ((G s).getD (0, 0)).2] 127)).drew (some m) := grown_drew (World.grownBy_alloc _ _ _)
      have hkW := hbk.kept (World.grownBy_alloc w1 (.cells #[.int .i64 ((G s).getD (0, 0)).1, .int .i64 ((G s).getD (0, 0)).2] 127) none) (by simp) (by simp)
      obtain ⟨w2, hst, hm2, htu⟩ := (hkW.2.2.2.drew).store Try.underlying3 Try.underlying90 hn hs (.agg #[.int .i64 ep, .int .i64 (afterS now)])
      have hg2 := hW.trans htu.grown
      refine wp_region_q 9 1 (fun w' => w'.cell? ⟨b, 2, none⟩ = some (.map (some m))) (by kernel_rfl) (by kernel_rfl) (by kernel_rfl) (by kernel_rfl) (by kernel_rfl) (hkW.2.2.1) rfl ?_
      intro K T hK hT
      simp only [List.map, List.take, List.drop] at hK ⊢
      go_wp2_with (first
        | (apply SeqQ.skip; rfl; simp only [Act.put, List.setIfInBounds_toArray, List.set_cons_zero, List.set_cons_succ])
        | (apply SeqQ.call; rfl; rfl; (intro w hw; have h4 := hT _ hw; go_simp; exact ⟨rfl, rfl⟩); (intro w hw; have h4 := hT _ hw; (first | (go_at_call 35; refine (after_any _ (by assumption) _).mono ?_; rintro e w' ⟨rfl, rfl⟩; exact ⟨rfl, rfl⟩))); simp only [Act.put, List.setIfInBounds_toArray, List.set_cons_zero, List.set_cons_succ])
        | (apply SeqQ.pure; rfl; (intro w hw; have h4 := hT _ hw; go_simp; with_reducible rfl); simp only [Act.put, List.setIfInBounds_toArray, List.set_cons_zero, List.set_cons_succ])
        | (apply SeqQ.split; rfl; rfl; all_goals (intro hc; simp only [hc]; try simp only [beq_iff_eq, decide_eq_true_eq, beq_eq_false_iff_ne, decide_eq_false_iff_not, bne_iff_ne, ne_eq, Bool.not_eq_true', Bool.not_eq_false', Int.not_le, Int.not_lt, bne_eq_false_iff_eq] at hc)))
      refine SeqQ.nil (hK _ ?_)
      clear hK hT
      refine wpListH.cons rfl (fun K' hK' => ?_)
      go_simp
      refine hK' _ _ (hg2.cell h3 (by simp; exact hbm)) (fun hS => ?_)
      refine wpListH.nil ?_
      go_wp2_with fail
      go_ret
      refine ⟨by rw [hE]; rfl, hbk.stored hg2 ?_, hg2⟩
      rw [← upd_map (G := G) (s := s) (a := ep) (c := (afterS now))]
      · exact hm2
      · intro x
        by_cases hx : x = s
        · subst hx
          simp [grantL, hE, grantG, hc1]
        · simp [grantL, hx]
    by_cases hc2 : ep = ((G s).getD (0, 0)).1
    · subst hc2
      by_cases hmx : ((G s).getD (0, 0)).2 < afterS now
      · go_wp2_with fail
        have hW : w1.grownBy (w1.alloc (.cells #[.int .i64 ((G s).getD (0, 0)).1, .int .i64 ((G s).getD (0, 0)).2] 127)).drew (some m) := grown_drew (World.grownBy_alloc _ _ _)
        have hkW := hbk.kept (World.grownBy_alloc w1 (.cells #[.int .i64 ((G s).getD (0, 0)).1, .int .i64 ((G s).getD (0, 0)).2] 127) none) (by simp) (by simp)
        obtain ⟨w2, hst, hm2, htu⟩ := (hkW.2.2.2.drew).store Try.underlying3 Try.underlying90 hn hs (.agg #[.int .i64 ((G s).getD (0, 0)).1, .int .i64 (afterS now)])
        have hg2 := hW.trans htu.grown
        refine wp_region_q 12 1 (fun w' => w'.cell? ⟨b, 2, none⟩ = some (.map (some m)) ∧ w'.cell? ⟨w1.heap.size, 1, none⟩ = some (.int .i64 ((G s).getD (0, 0)).2)) (by kernel_rfl) (by kernel_rfl) (by kernel_rfl) (by kernel_rfl) (by kernel_rfl) (⟨hkW.2.2.1, by simp [go_sem]⟩) rfl ?_
        intro K T hK hT
        simp only [List.map, List.take, List.drop] at hK ⊢
        go_wp2_with (first
          | (apply SeqQ.skip; rfl; simp only [Act.put, List.setIfInBounds_toArray, List.set_cons_zero, List.set_cons_succ])
          | (apply SeqQ.call; rfl; rfl; (intro w hw; have h4 := hT _ hw; go_simp; exact ⟨rfl, rfl⟩); (intro w hw; have h4 := hT _ hw; (first | (go_at_call 35; refine (after_any _ (by assumption) _).mono ?_; rintro e w' ⟨rfl, rfl⟩; exact ⟨rfl, rfl⟩))); simp only [Act.put, List.setIfInBounds_toArray, List.set_cons_zero, List.set_cons_succ])
          | (apply SeqQ.pure; rfl; (intro w hw; have h4 := hT _ hw; go_simp; with_reducible rfl); simp only [Act.put, List.setIfInBounds_toArray, List.set_cons_zero, List.set_cons_succ])
          | (apply SeqQ.split; rfl; rfl; all_goals (intro hc; simp only [hc]; try simp only [beq_iff_eq, decide_eq_true_eq, beq_eq_false_iff_ne, decide_eq_false_iff_not, bne_iff_ne, ne_eq, Bool.not_eq_true', Bool.not_eq_false', Int.not_le, Int.not_lt, bne_eq_false_iff_eq] at hc)))
        refine SeqQ.nil (hK _ ?_)
        clear hK hT
        refine wpListH.cons rfl (fun K' hK' => ?_)
        go_simp
        refine hK' _ _ ⟨hg2.cell h3 (by simp; exact hbm), htu.grown.cell (by simp [go_sem]) (by simp; omega)⟩ (fun hS => ?_)
        refine wpListH.nil ?_
        go_wp2_with fail
        go_ret
        refine ⟨by rw [hE]; rfl, hbk.stored hg2 ?_, hg2⟩
        rw [← upd_map (G := G) (s := s) (a := ((G s).getD (0, 0)).1) (c := (afterS now))]
        · exact hm2
        · intro x
          by_cases hx : x = s
          · subst hx
            simp [grantL, hE, grantG]; omega
          · simp [grantL, hx]
      · go_wp2_with fail
        have hW : w1.grownBy (w1.alloc (.cells #[.int .i64 ((G s).getD (0, 0)).1, .int .i64 ((G s).getD (0, 0)).2] 127)).drew (some m) := grown_drew (World.grownBy_alloc _ _ _)
        have hkW := hbk.kept (World.grownBy_alloc w1 (.cells #[.int .i64 ((G s).getD (0, 0)).1, .int .i64 ((G s).getD (0, 0)).2] 127) none) (by simp) (by simp)
        obtain ⟨w2, hst, hm2, htu⟩ := (hkW.2.2.2.drew).store Try.underlying3 Try.underlying90 hn hs (.agg #[.int .i64 ((G s).getD (0, 0)).1, .int .i64 ((G s).getD (0, 0)).2])
        have hg2 := hW.trans htu.grown
        refine wp_region_q 12 1 (fun w' => w'.cell? ⟨b, 2, none⟩ = some (.map (some m)) ∧ w'.cell? ⟨w1.heap.size, 1, none⟩ = some (.int .i64 ((G s).getD (0, 0)).2)) (by kernel_rfl) (by kernel_rfl) (by kernel_rfl) (by kernel_rfl) (by kernel_rfl) (⟨hkW.2.2.1, by simp [go_sem]⟩) rfl ?_
        intro K T hK hT
        simp only [List.map, List.take, List.drop] at hK ⊢
        go_wp2_with (first
          | (apply SeqQ.skip; rfl; simp only [Act.put, List.setIfInBounds_toArray, List.set_cons_zero, List.set_cons_succ])
          | (apply SeqQ.call; rfl; rfl; (intro w hw; have h4 := hT _ hw; go_simp; exact ⟨rfl, rfl⟩); (intro w hw; have h4 := hT _ hw; (first | (go_at_call 35; refine (after_any _ (by assumption) _).mono ?_; rintro e w' ⟨rfl, rfl⟩; exact ⟨rfl, rfl⟩))); simp only [Act.put, List.setIfInBounds_toArray, List.set_cons_zero, List.set_cons_succ])
          | (apply SeqQ.pure; rfl; (intro w hw; have h4 := hT _ hw; go_simp; with_reducible rfl); simp only [Act.put, List.setIfInBounds_toArray, List.set_cons_zero, List.set_cons_succ])
          | (apply SeqQ.split; rfl; rfl; all_goals (intro hc; simp only [hc]; try simp only [beq_iff_eq, decide_eq_true_eq, beq_eq_false_iff_ne, decide_eq_false_iff_not, bne_iff_ne, ne_eq, Bool.not_eq_true', Bool.not_eq_false', Int.not_le, Int.not_lt, bne_eq_false_iff_eq] at hc)))
        refine SeqQ.nil (hK _ ?_)
        clear hK hT
        refine wpListH.cons rfl (fun K' hK' => ?_)
        go_simp
        refine hK' _ _ ⟨hg2.cell h3 (by simp; exact hbm), htu.grown.cell (by simp [go_sem]) (by simp; omega)⟩ (fun hS => ?_)
        refine wpListH.nil ?_
        go_wp2_with fail
        go_ret
        refine ⟨by rw [hE]; rfl, hbk.stored hg2 ?_, hg2⟩
        rw [← upd_map (G := G) (s := s) (a := ((G s).getD (0, 0)).1) (c := ((G s).getD (0, 0)).2)]
        · exact hm2
        · intro x
          by_cases hx : x = s
          · subst hx
            simp [grantL, hE, grantG]; omega
          · simp [grantL, hx]
    · have hlow : ep < ((G s).getD (0, 0)).1 := by omega
      go_wp2_with fail
      go_ret
      refine ⟨by rw [hE]; rfl, ?_, World.grownBy_alloc _ _ _⟩
      rw [grantL_none hlow]
      exact (hbk.kept (World.grownBy_alloc w1 _ none) (by simp) (by simp)).mono (by omega)
end Go.Proofs.Ytdphfhenjndkkaa

set_option linter.unusedSimpArgs false
set_option linter.unusedVariables false
set_option maxRecDepth 100000
namespace Go.Proofs.Ytdphfhenjndkkaa
open Go.RowKit Go.Sq Go.Im

/-- Release. -/
def relG (G : Option (Int × Int)) (ep : Int) : Option (Int × Int) :=
  match G with
    | none => none
    | some g => if g.1 = ep then some (ep, 0) else some g

def relL (G : Int → Option (Int × Int)) (s ep : Int) : Int → Option (Int × Int) :=
  fun x => if x = s then relG (G s) ep else G x

theorem relL_none {G : Int → Option (Int × Int)} {s ep : Int} (h : relG (G s) ep = G s) : relL G s ep = G := by
  funext x
  by_cases hx : x = s
  · subst hx; simp [relL, h]
  · simp [relL, hx]

set_option maxHeartbeats 2000000 in
theorem lrelease_any (b m n : Nat) (hn : n < maxLen) (gr : Int) (G : Int → Option (Int × Int)) (s ep : Int) (hs : (Lit.int .i64 s).wf = true) (w : World) (h : Bk w b m n gr G) :
    Calls Try.prog 39 #[.pointer (some ⟨b, 0, none⟩), .int .i64 s, .int .i64 ep] w fun e w' => e = .returned (.int .i64 0) ∧ Bk w' b m (n + 1) gr (relL G s ep) ∧ But m w w' := by
  have hbk := h
  obtain ⟨h1, h2, h3, hm⟩ := h
  have hlt := hm.lt
  have hbm := hbk.ne
  have hl := hm.look_ok Try.underlying3 Try.underlying90 (zero_grant w) hs
  cases hG : G s with
  | none =>
    simp only [hG, Option.map_none, Option.getD_none, Option.isSome_none] at hl
    go_enter Try.func39, Try.ntmps39
    go_wp2_with fail
    refine (none_book b true _ h1).mono ?_
    rintro e w1 ⟨rfl, rfl⟩
    go_wp2_with fail
    go_ret
    refine ⟨rfl, ?_, World.grownBy_alloc _ _ _⟩
    rw [relL_none (by simp [relG, hG])]
    exact (hbk.kept (World.grownBy_alloc w1 _ none) (by simp) (by simp)).mono (by omega)
  | some g =>
    simp only [hG, Option.map_some, Option.getD_some, Option.isSome_some] at hl
    by_cases hc : g.1 = ep
    · subst hc
      go_enter Try.func39, Try.ntmps39
      go_wp2_with fail
      refine (none_book b true _ h1).mono ?_
      rintro e w1 ⟨rfl, rfl⟩
      have hW : w1.grownBy (w1.alloc (.cells #[.int .i64 g.1, .int .i64 g.2] 127)) (some m) := World.grownBy_alloc _ _ _
      have hkW := hbk.kept (World.grownBy_alloc w1 (.cells #[.int .i64 g.1, .int .i64 g.2] 127) none) (by simp) (by simp)
      obtain ⟨w2, hst, hm2, htu⟩ := (hkW.2.2.2).store Try.underlying3 Try.underlying90 hn hs (.agg #[.int .i64 g.1, .int .i64 0])
      have hg2 := hW.trans htu.grown
      have h3' := hkW.2.2.1
      go_wp2_with fail
      go_ret
      refine ⟨rfl, hbk.stored hg2 ?_, hg2⟩
      rw [← upd_map (G := G) (s := s) (a := g.1) (c := 0)]
      · exact hm2
      · intro x
        by_cases hx : x = s
        · subst hx
          simp [relL, relG, hG]
        · simp [relL, hx]
    · go_enter Try.func39, Try.ntmps39
      go_wp2_with fail
      refine (none_book b true _ h1).mono ?_
      rintro e w1 ⟨rfl, rfl⟩
      go_wp2_with fail
      go_ret
      refine ⟨rfl, ?_, World.grownBy_alloc _ _ _⟩
      rw [relL_none (by simp [relG, hG, hc])]
      exact (hbk.kept (World.grownBy_alloc w1 _ none) (by simp) (by simp)).mono (by omega)

/-- New. -/
def graceL (re : Bool) (now : Int) : Int := if re then afterS now else 0

theorem lnew_any (now : Int) (h0 : -9223372036854775808 ≤ now) (re : Bool) (w : World) :
    Calls Try.prog 12 #[.int .i64 now, .bool re] w fun e w' => ∃ b m, e = .returned (.pointer (some ⟨b, 0, none⟩)) ∧ Bk w' b m 0 (graceL re now) (fun _ => none) ∧ Below w.heap.size w w' ∧ w.heap.size ≤ b ∧ w.heap.size ≤ m := by
  have hmk := run_makeMap (P := Try.prog) 90 w
  have him := IMap.made Try.prog 3 w
  have hm0 := him.alloc (.cells #[.bool true, .int .i64 0, .map (some w.heap.size)] 92)
  cases re
  · go_enter Try.func12, Try.ntmps12
    go_wp2_with fail
    go_ret
    refine ⟨w.heap.size + 1, w.heap.size, rfl, ⟨by simp [go_sem], by simp [go_sem, graceL], by simp [go_sem], hm0⟩, by (repeat (first | with_reducible apply Below.drew | with_reducible refine Below.setCell ?_ (by first | exact Nat.le_refl _ | (simp; done) | (simp; omega) | omega) _ | with_reducible refine Below.alloc ?_ (by first | exact Nat.le_refl _ | (simp; done) | (simp; omega) | omega) _ | with_reducible exact Below.refl _ _ | with_reducible assumption)), by omega, by omega⟩
  · go_enter Try.func12, Try.ntmps12
    go_wp2_with fail
    refine (after_any _ h0 _).mono ?_
    rintro e w1 ⟨rfl, rfl⟩
    go_wp2_with fail
    go_ret
    refine ⟨w.heap.size + 1, w.heap.size, rfl, ⟨by simp [go_sem], by simp [go_sem, graceL], by simp [go_sem], him.alloc _⟩, by (repeat (first | with_reducible apply Below.drew | with_reducible refine Below.setCell ?_ (by first | exact Nat.le_refl _ | (simp; done) | (simp; omega) | omega) _ | with_reducible refine Below.alloc ?_ (by first | exact Nat.le_refl _ | (simp; done) | (simp; omega) | omega) _ | with_reducible exact Below.refl _ _ | with_reducible assumption)), by omega, by omega⟩

/-! ### A book that is none -/
/-- It is nil, or not made. -/
def NoBook (w : World) (v : Value) : Prop := v = .pointer none ∨ ∃ b, v = .pointer (some ⟨b, 0, none⟩) ∧ w.cell? ⟨b, 0, none⟩ = some (.bool false)

theorem none_no {v : Value} {w : World} (h : NoBook w v) : Calls Try.prog 69 #[v] w fun e w' => e = .returned (.bool true) ∧ w' = w := by
  rcases h with rfl | ⟨b, rfl, h⟩
  · exact none_nil w
  · exact none_book b false w h

theorem lmay_no {v : Value} (s ep now : Int) {w : World} (h : NoBook w v) :
    Calls Try.prog 63 #[v, .int .i64 s, .int .i64 ep, .int .i64 now] w fun e w' => e = .returned (.bool false) ∧ Below w.heap.size w w' := by
  go_enter Try.func63, Try.ntmps63
  go_wp2_with fail
  refine (none_no h).mono ?_
  rintro e w1 ⟨rfl, rfl⟩
  go_wp2_with fail
  go_ret
  exact ⟨rfl, by (repeat (first | with_reducible apply Below.drew | with_reducible refine Below.setCell ?_ (by first | exact Nat.le_refl _ | (simp; done) | (simp; omega) | omega) _ | with_reducible refine Below.alloc ?_ (by first | exact Nat.le_refl _ | (simp; done) | (simp; omega) | omega) _ | with_reducible exact Below.refl _ _ | with_reducible assumption))⟩

theorem lgrant_no {v : Value} (s ep now : Int) {w : World} (h : NoBook w v) :
    Calls Try.prog 66 #[v, .int .i64 s, .int .i64 ep, .int .i64 now] w fun e w' => e = .returned (.int .i64 1) ∧ Below w.heap.size w w' := by
  go_enter Try.func66, Try.ntmps66
  go_wp2_with fail
  refine (none_no h).mono ?_
  rintro e w1 ⟨rfl, rfl⟩
  go_wp2_with fail
  go_ret
  exact ⟨rfl, by (repeat (first | with_reducible apply Below.drew | with_reducible refine Below.setCell ?_ (by first | exact Nat.le_refl _ | (simp; done) | (simp; omega) | omega) _ | with_reducible refine Below.alloc ?_ (by first | exact Nat.le_refl _ | (simp; done) | (simp; omega) | omega) _ | with_reducible exact Below.refl _ _ | with_reducible assumption))⟩

theorem lrelease_no {v : Value} (s ep : Int) {w : World} (h : NoBook w v) :
    Calls Try.prog 39 #[v, .int .i64 s, .int .i64 ep] w fun e w' => e = .returned (.int .i64 1) ∧ Below w.heap.size w w' := by
  go_enter Try.func39, Try.ntmps39
  go_wp2_with fail
  refine (none_no h).mono ?_
  rintro e w1 ⟨rfl, rfl⟩
  go_wp2_with fail
  go_ret
  exact ⟨rfl, by (repeat (first | with_reducible apply Below.drew | with_reducible refine Below.setCell ?_ (by first | exact Nat.le_refl _ | (simp; done) | (simp; omega) | omega) _ | with_reducible refine Below.alloc ?_ (by first | exact Nat.le_refl _ | (simp; done) | (simp; omega) | omega) _ | with_reducible exact Below.refl _ _ | with_reducible assumption))⟩
end Go.Proofs.Ytdphfhenjndkkaa

set_option linter.unusedSimpArgs false
set_option linter.unusedVariables false
set_option maxRecDepth 100000
namespace Go.Proofs.Ytdphfhenjndkkaa
open Go.RowKit Go.Sq Go.Im

theorem Bk.below {w w' : World} {b m n : Nat} {gr : Int} {G : Int → Option (Int × Int)} (h : Bk w b m n gr G) (hg : Below w.heap.size w w') : Bk w' b m n gr G :=
  h.kept (x := none) ⟨hg.os, hg.tape, hg.output, hg.size, fun i hi _ => hg.block i hi⟩ (by simp) (by simp)

theorem below_but {B : Nat} {w w1 w2 : World} {m : Nat} (h : Below B w w1) (hg : But m w1 w2) (hB : B ≤ m) (hw : B ≤ w1.heap.size) : Below B w w2 :=
  ⟨hg.os.trans h.os, hg.tape.trans h.tape, hg.output.trans h.output, Nat.le_trans h.size hg.size, fun k hk => (hg.block k (by omega) (by simp; omega)).trans (h.block k hk)⟩

theorem below_below {B : Nat} {w w1 w2 : World} (h : Below B w w1) (hg : Below w1.heap.size w1 w2) (hw : B ≤ w1.heap.size) : Below B w w2 :=
  ⟨hg.os.trans h.os, hg.tape.trans h.tape, hg.output.trans h.output, Nat.le_trans h.size hg.size, fun k hk => (hg.block k (by omega)).trans (h.block k hk)⟩

theorem lmay_is {b m n : Nat} {gr : Int} {G : Int → Option (Int × Int)} {s ep now : Int} {w : World} (h : Bk w b m n gr G) (hs : (Lit.int .i64 s).wf = true) (r : Bool) (hr : mayL gr (G s) ep now = r) :
    Calls Try.prog 63 #[.pointer (some ⟨b, 0, none⟩), .int .i64 s, .int .i64 ep, .int .i64 now] w fun e w' => e = .returned (.bool r) ∧ Below w.heap.size w w' := by
  subst hr
  exact lmay_any b m n gr G s ep now hs w h

end Go.Proofs.Ytdphfhenjndkkaa

set_option linter.unusedSimpArgs false
set_option linter.unusedVariables false
set_option maxRecDepth 100000
namespace Go.Proofs.Ytdphfhenjndkkaa
open Go.RowKit Go.Sq Go.Wd

/-- THE DOCUMENT'S BOOK in block r: its grace, four grants. -/
def RB (w : World) (r : Nat) (gr : Int) (E U : Nat → Int) : Prop :=
  Blk w r 33 [.int .i64 gr, .int .i64 (E 0), .int .i64 (U 0), .int .i64 (E 1), .int .i64 (U 1), .int .i64 (E 2), .int .i64 (U 2), .int .i64 (E 3), .int .i64 (U 3)]

theorem over_any (now : Int) (h0 : -9223372036854775808 ≤ now) (w : World) : Calls Try.prog 13 #[.int .i64 now] w fun e w' => e = .returned (.int .i64 (afterS now)) ∧ w' = w := by
  go_enter Try.func13, Try.ntmps13
  go_wp2
  all_goals (go_ret; refine ⟨ret_int (by unfold afterS; split <;> omega), rfl⟩)

theorem there_yes (s : Int) (h : 0 ≤ s ∧ s < 4) (w : World) : Calls Try.prog 71 #[.int .i64 s] w fun e w' => e = .returned (.bool true) ∧ w' = w := by
  obtain ⟨h1, h2⟩ := h
  go_enter Try.func71, Try.ntmps71
  go_wp2
  go_ret
  exact ⟨rfl, rfl⟩
theorem there_no (s : Int) (h : ¬ (0 ≤ s ∧ s < 4)) (w : World) : Calls Try.prog 71 #[.int .i64 s] w fun e w' => e = .returned (.bool false) ∧ w' = w := by
  by_cases h1 : 0 ≤ s
  · have h2 : decide (s < 4) = false := by simp; omega
    clear h
    go_enter Try.func71, Try.ntmps71
    go_wp2
    go_ret
    exact ⟨rfl, rfl⟩
  · have h2 : s < 0 := by omega
    clear h
    go_enter Try.func71, Try.ntmps71
    go_wp2
    go_ret
    exact ⟨rfl, rfl⟩

def rmayL (gr : Int) (E U : Nat → Int) (s ep now : Int) : Bool :=
  if now < gr then false else if 0 ≤ s ∧ s < 4 then (decide (E s.toNat = 0) || decide (U s.toNat ≤ now) || decide (E s.toNat = ep)) else true

theorem four (s : Int) (h : 0 ≤ s ∧ s < 4) : s = 0 ∨ s = 1 ∨ s = 2 ∨ s = 3 := by omega

set_option maxHeartbeats 1000000 in
theorem rmay_any (r : Nat) (gr : Int) (E U : Nat → Int) (s ep now : Int) (w : World) (h : RB w r gr E U) :
    Calls Try.prog 42 #[.pointer (some ⟨r, 0, none⟩), .int .i64 s, .int .i64 ep, .int .i64 now] w fun e w' => e = .returned (.bool (rmayL gr E U s ep now)) ∧ Below w.heap.size w w' := by
  have c0 := h.cell 0
  have c1 := h.cell 1
  have c2 := h.cell 2
  have c3 := h.cell 3
  have c4 := h.cell 4
  have c5 := h.cell 5
  have c6 := h.cell 6
  have c7 := h.cell 7
  have c8 := h.cell 8
  simp at c0 c1 c2 c3 c4 c5 c6 c7 c8
  by_cases hg : now < gr
  · go_enter Try.func42, Try.ntmps42
    go_wp2_with fail
    go_ret
    refine ⟨ret_bool (by simp [rmayL, hg]), by (repeat (first | with_reducible apply Below.drew | with_reducible refine Below.setCell ?_ (by first | exact Nat.le_refl _ | (simp; done) | (simp; omega) | omega) _ | with_reducible refine Below.alloc ?_ (by first | exact Nat.le_refl _ | (simp; done) | (simp; omega) | omega) _ | with_reducible exact Below.refl _ _ | with_reducible assumption))⟩
  by_cases hs : 0 ≤ s ∧ s < 4
  · rcases four s hs with rfl | rfl | rfl | rfl
    all_goals
      go_enter Try.func42, Try.ntmps42
      go_wp2_with fail
      refine (there_yes _ (by omega) _).mono ?_
      rintro e w1 ⟨rfl, rfl⟩
      go_wp2_with fail
      all_goals (go_ret; refine ⟨ret_bool ?_, by (repeat (first | with_reducible apply Below.drew | with_reducible refine Below.setCell ?_ (by first | exact Nat.le_refl _ | (simp; done) | (simp; omega) | omega) _ | with_reducible refine Below.alloc ?_ (by first | exact Nat.le_refl _ | (simp; done) | (simp; omega) | omega) _ | with_reducible exact Below.refl _ _ | with_reducible assumption))⟩)
      all_goals ((try simp only [beq_iff_eq, decide_eq_true_eq, beq_eq_false_iff_ne, decide_eq_false_iff_not, bne_iff_ne, ne_eq, Bool.not_eq_true', Bool.not_eq_false', Int.not_le, Int.not_lt, not_false_eq_true, bne_eq_false_iff_eq] at *); rw [Bool.eq_iff_iff]; simp [rmayL, *]; try omega)
  · go_enter Try.func42, Try.ntmps42
    go_wp2_with fail
    refine (there_no _ hs _).mono ?_
    rintro e w1 ⟨rfl, rfl⟩
    go_wp2_with fail
    go_ret
    refine ⟨ret_bool (by simp [rmayL, hg, hs]), by (repeat (first | with_reducible apply Below.drew | with_reducible refine Below.setCell ?_ (by first | exact Nat.le_refl _ | (simp; done) | (simp; omega) | omega) _ | with_reducible refine Below.alloc ?_ (by first | exact Nat.le_refl _ | (simp; done) | (simp; omega) | omega) _ | with_reducible exact Below.refl _ _ | with_reducible assumption))⟩

end Go.Proofs.Ytdphfhenjndkkaa

set_option linter.unusedSimpArgs false
set_option linter.unusedVariables false
set_option maxRecDepth 100000
namespace Go.Proofs.Ytdphfhenjndkkaa
open Go.RowKit Go.Sq Go.Wd

def upN (E : Nat → Int) (s : Int) (v : Int) : Nat → Int := fun i => if (i : Int) = s then v else E i

def rgrantE (E U : Nat → Int) (s ep : Int) : Nat → Int := if grantE s ep = 0 ∧ E s.toNat ≤ ep then upN E s ep else E
def rgrantU (E U : Nat → Int) (s ep now : Int) : Nat → Int :=
  if grantE s ep = 0 ∧ E s.toNat ≤ ep then upN U s (if ep = E s.toNat ∧ afterS now < U s.toNat then U s.toNat else afterS now) else U

theorem rgrant_no {E U : Nat → Int} {s ep now : Int} (h : ep < E s.toNat) : rgrantE E U s ep = E ∧ rgrantU E U s ep now = U := by
  have : ¬ E s.toNat ≤ ep := by omega
  simp [rgrantE, rgrantU, this]
theorem rgrant_yes {E U : Nat → Int} {s ep now : Int} (hs : 0 ≤ s ∧ s < 4) (h : ¬ ep < 1) (h2 : E s.toNat ≤ ep) :
    rgrantE E U s ep = upN E s ep ∧ rgrantU E U s ep now = upN U s (if ep = E s.toNat ∧ afterS now < U s.toNat then U s.toNat else afterS now) := by
  have h1 : grantE s ep = 0 := by unfold grantE; rw [if_neg (by omega)]
  simp [rgrantE, rgrantU, h1, h2]

theorem RB.atE {w : World} {r : Nat} {gr : Int} {E U : Nat → Int} (h : RB w r gr E U) {k : Nat} (hk : k < 4) : w.cell? ⟨r, 1 + k * 2, none⟩ = some (.int .i64 (E k)) := by
  obtain rfl | rfl | rfl | rfl : k = 0 ∨ k = 1 ∨ k = 2 ∨ k = 3 := by omega
  all_goals exact h.cell _
theorem RB.atU {w : World} {r : Nat} {gr : Int} {E U : Nat → Int} (h : RB w r gr E U) {k : Nat} (hk : k < 4) : w.cell? ⟨r, 1 + k * 2 + 1, none⟩ = some (.int .i64 (U k)) := by
  obtain rfl | rfl | rfl | rfl : k = 0 ∨ k = 1 ∨ k = 2 ∨ k = 3 := by omega
  all_goals exact h.cell _
theorem RB.set {w : World} {r : Nat} {gr : Int} {E U : Nat → Int} (h : RB w r gr E U) {k : Nat} (hk : k < 4) (x y : Int) :
    RB ((w.setCell ⟨r, 1 + k * 2, none⟩ (.int .i64 x)).setCell ⟨r, 1 + k * 2 + 1, none⟩ (.int .i64 y)) r gr (upN E k x) (upN U k y) := by
  have h2 := (Blk.set h (1 + k * 2) (.int .i64 x)).set (1 + k * 2 + 1) (.int .i64 y)
  refine h2.of_eq ?_
  obtain rfl | rfl | rfl | rfl : k = 0 ∨ k = 1 ∨ k = 2 ∨ k = 3 := by omega
  all_goals simp [upN]

set_option maxHeartbeats 1000000 in
theorem rgrant_any (r : Nat) (gr : Int) (E U : Nat → Int) (s ep now : Int) (h0 : -9223372036854775808 ≤ now) (w : World) (h : RB w r gr E U) :
    Calls Try.prog 44 #[.pointer (some ⟨r, 0, none⟩), .int .i64 s, .int .i64 ep, .int .i64 now] w fun e w' => e = .returned (.int .i64 (grantE s ep)) ∧ RB w' r gr (rgrantE E U s ep) (rgrantU E U s ep now) ∧ w.grownBy w' (some r) := by
  have hf := h.frozen
  have hrlt := h.lt
  by_cases hs : 0 ≤ s ∧ s < 4
  · obtain ⟨k, rfl⟩ := Int.eq_ofNat_of_zero_le hs.1
    have hk : k < 4 := by omega
    have cE := h.atE hk
    have cU := h.atU hk
    by_cases he : ep < 1
    · go_enter Try.func44, Try.ntmps44
      go_wp2_with fail
      refine (there_yes _ hs _).mono ?_
      rintro e w1 ⟨rfl, rfl⟩
      go_wp2_with fail
      go_ret
      refine ⟨ret_int (by simp [grantE, he]), ?_, World.grownBy.refl _ _⟩
      simpa [rgrantE, rgrantU, grantE, he] using h
    have he' : 1 ≤ ep := by omega
    clear he
    by_cases hl : ep < E k
    · go_enter Try.func44, Try.ntmps44
      go_wp2_with fail
      refine (there_yes _ hs _).mono ?_
      rintro e w1 ⟨rfl, rfl⟩
      go_wp2_with fail
      go_ret
      refine ⟨ret_int (by simp [grantE]; omega), ?_, World.grownBy_alloc _ _ _⟩
      obtain ⟨g1, g2⟩ := rgrant_no (E := E) (U := U) (s := k) (ep := ep) (now := now) (by simpa using hl)
      rw [g1, g2]
      exact Blk.alloc h _
    obtain ⟨g1, g2⟩ := rgrant_yes (E := E) (U := U) (s := k) (now := now) (ep := ep) hs (by omega) (by simp; omega)
    rw [g1, g2]
    clear g1 g2
    have hl' : E k ≤ ep := by omega
    by_cases hc : ep = E k ∧ afterS now < U k
    · obtain ⟨hc1, hc2⟩ := hc
      rw [if_pos (by simpa using ⟨hc1, hc2⟩)]
      subst hc1
      go_enter Try.func44, Try.ntmps44
      go_wp2_with fail
      refine (there_yes _ hs _).mono ?_
      rintro e w1 ⟨rfl, rfl⟩
      go_wp2_with fail
      refine (over_any _ h0 _).mono ?_
      rintro e w2 ⟨rfl, rfl⟩
      go_wp2_with fail
      go_ret
      refine ⟨ret_int (by simp [grantE]; omega), ?_, by (repeat (first | with_reducible apply only_drew | with_reducible refine only_setCell ?_ (by first | exact Or.inl rfl | (right; simp; done) | (right; simp; omega) | (right; omega)) _ | with_reducible refine only_alloc ?_ _ | with_reducible exact World.grownBy.refl _ _ | with_reducible assumption))⟩
      exact Blk.alloc (RB.set h hk _ _) _
    · rw [if_neg (by simpa using hc)]
      have hc' : ¬ (ep = E k) ∨ U k ≤ afterS now := by omega
      clear hc
      rcases Int.lt_or_eq_of_le hl' with hlt | heq
      · have hne : (ep == E k) = false := by simp; omega
        go_enter Try.func44, Try.ntmps44
        go_wp2_with fail
        refine (there_yes _ hs _).mono ?_
        rintro e w1 ⟨rfl, rfl⟩
        go_wp2_with fail
        refine (over_any _ h0 _).mono ?_
        rintro e w2 ⟨rfl, rfl⟩
        go_wp2_with fail
        go_ret
        refine ⟨ret_int (by simp [grantE]; omega), ?_, by (repeat (first | with_reducible apply only_drew | with_reducible refine only_setCell ?_ (by first | exact Or.inl rfl | (right; simp; done) | (right; simp; omega) | (right; omega)) _ | with_reducible refine only_alloc ?_ _ | with_reducible exact World.grownBy.refl _ _ | with_reducible assumption))⟩
        exact Blk.alloc (RB.set h hk _ _) _
      · subst heq
        have hle : U k ≤ afterS now := by omega
        clear hc'
        go_enter Try.func44, Try.ntmps44
        go_wp2_with fail
        refine (there_yes _ hs _).mono ?_
        rintro e w1 ⟨rfl, rfl⟩
        go_wp2_with fail
        refine (over_any _ h0 _).mono ?_
        rintro e w2 ⟨rfl, rfl⟩
        go_wp2_with fail
        go_ret
        refine ⟨ret_int (by simp [grantE]; omega), ?_, by (repeat (first | with_reducible apply only_drew | with_reducible refine only_setCell ?_ (by first | exact Or.inl rfl | (right; simp; done) | (right; simp; omega) | (right; omega)) _ | with_reducible refine only_alloc ?_ _ | with_reducible exact World.grownBy.refl _ _ | with_reducible assumption))⟩
        exact Blk.alloc (RB.set h hk _ _) _
  · have hg : ¬ grantE s ep = 0 := by simp [grantE]; omega
    have e1 : rgrantE E U s ep = E := by simp [rgrantE, hg]
    have e2 : rgrantU E U s ep now = U := by simp [rgrantU, hg]
    rw [e1, e2]
    clear e1 e2
    go_enter Try.func44, Try.ntmps44
    go_wp2_with fail
    refine (there_no _ hs _).mono ?_
    rintro e w1 ⟨rfl, rfl⟩
    go_wp2_with fail
    go_ret
    refine ⟨ret_int ?_, h, World.grownBy.refl _ _⟩
    simp [grantE]; omega

/-- Release. -/
def rrelU (E U : Nat → Int) (s ep : Int) : Nat → Int := if (0 ≤ s ∧ s < 4) ∧ 1 ≤ ep ∧ E s.toNat = ep then upN U s (-4611686018427387904) else U

theorem RB.setU {w : World} {r : Nat} {gr : Int} {E U : Nat → Int} (h : RB w r gr E U) {k : Nat} (hk : k < 4) (y : Int) :
    RB (w.setCell ⟨r, 1 + k * 2 + 1, none⟩ (.int .i64 y)) r gr E (upN U k y) := by
  refine (Blk.set h (1 + k * 2 + 1) (.int .i64 y)).of_eq ?_
  obtain rfl | rfl | rfl | rfl : k = 0 ∨ k = 1 ∨ k = 2 ∨ k = 3 := by omega
  all_goals simp [upN]

set_option maxHeartbeats 1000000 in
theorem rrelease_any (r : Nat) (gr : Int) (E U : Nat → Int) (s ep : Int) (w : World) (h : RB w r gr E U) :
    Calls Try.prog 41 #[.pointer (some ⟨r, 0, none⟩), .int .i64 s, .int .i64 ep] w fun e w' => e = .returned (.tuple #[]) ∧ RB w' r gr E (rrelU E U s ep) ∧ w.grownBy w' (some r) := by
  have hf := h.frozen
  have hrlt := h.lt
  by_cases hs : 0 ≤ s ∧ s < 4
  · obtain ⟨k, rfl⟩ := Int.eq_ofNat_of_zero_le hs.1
    have hk : k < 4 := by omega
    have cE := h.atE hk
    have cU := h.atU hk
    by_cases he : ep < 1
    · go_enter Try.func41, Try.ntmps41
      go_wp2_with fail
      refine (there_yes _ hs _).mono ?_
      rintro e w1 ⟨rfl, rfl⟩
      go_wp2_with fail
      go_end0
      have e1 : rrelU E U k ep = U := by unfold rrelU; rw [if_neg (by omega)]
      rw [e1]
      exact ⟨rfl, h, by (repeat (first | with_reducible apply only_drew | with_reducible refine only_setCell ?_ (by first | exact Or.inl rfl | (right; simp; done) | (right; simp; omega) | (right; omega)) _ | with_reducible refine only_alloc ?_ _ | with_reducible exact World.grownBy.refl _ _ | with_reducible assumption))⟩
    have he' : 1 ≤ ep := by omega
    by_cases hc : E k = ep
    · have e1 : rrelU E U k ep = upN U k (-4611686018427387904) := by unfold rrelU; rw [if_pos (by simp [hc]; omega)]
      rw [e1]
      clear e1 he
      subst hc
      go_enter Try.func41, Try.ntmps41
      go_wp2_with fail
      refine (there_yes _ hs _).mono ?_
      rintro e w1 ⟨rfl, rfl⟩
      go_wp2_with fail
      go_end0
      exact ⟨rfl, RB.setU h hk _, by (repeat (first | with_reducible apply only_drew | with_reducible refine only_setCell ?_ (by first | exact Or.inl rfl | (right; simp; done) | (right; simp; omega) | (right; omega)) _ | with_reducible refine only_alloc ?_ _ | with_reducible exact World.grownBy.refl _ _ | with_reducible assumption))⟩
    · have e1 : rrelU E U k ep = U := by unfold rrelU; rw [if_neg (by simp; omega)]
      rw [e1]
      clear e1 he
      have hc' : (E k == ep) = false := by simpa using hc
      go_enter Try.func41, Try.ntmps41
      go_wp2_with fail
      refine (there_yes _ hs _).mono ?_
      rintro e w1 ⟨rfl, rfl⟩
      go_wp2_with fail
      go_end0
      exact ⟨rfl, h, by (repeat (first | with_reducible apply only_drew | with_reducible refine only_setCell ?_ (by first | exact Or.inl rfl | (right; simp; done) | (right; simp; omega) | (right; omega)) _ | with_reducible refine only_alloc ?_ _ | with_reducible exact World.grownBy.refl _ _ | with_reducible assumption))⟩
  · have e1 : rrelU E U s ep = U := by simp [rrelU, hs]
    rw [e1]
    clear e1
    go_enter Try.func41, Try.ntmps41
    go_wp2_with fail
    refine (there_no _ hs _).mono ?_
    rintro e w1 ⟨rfl, rfl⟩
    go_wp2_with fail
    go_end0
    exact ⟨rfl, h, by (repeat (first | with_reducible apply only_drew | with_reducible refine only_setCell ?_ (by first | exact Or.inl rfl | (right; simp; done) | (right; simp; omega) | (right; omega)) _ | with_reducible refine only_alloc ?_ _ | with_reducible exact World.grownBy.refl _ _ | with_reducible assumption))⟩
end Go.Proofs.Ytdphfhenjndkkaa

set_option linter.unusedSimpArgs false
set_option linter.unusedVariables false
set_option maxRecDepth 100000
namespace Go.Proofs.Ytdphfhenjndkkaa

/-- The two books say the same of one stream. -/
def Alike1 (g : Option (Int × Int)) (e u : Int) : Prop := (e = 0 ∧ g = none) ∨ (1 ≤ e ∧ ∃ v, g = some (e, v) ∧ (v = u ∨ (v ≤ 0 ∧ u ≤ 0)))
def Alike (G : Int → Option (Int × Int)) (E U : Nat → Int) : Prop := ∀ s : Int, (0 ≤ s ∧ s < 4 → Alike1 (G s) (E s.toNat) (U s.toNat)) ∧ (¬ (0 ≤ s ∧ s < 4) → G s = none)

theorem alike_start : Alike (fun _ => none) (fun _ => 0) (fun _ => 0) := fun s => ⟨fun _ => .inl ⟨rfl, rfl⟩, fun _ => rfl⟩

theorem afterS_pos {now : Int} (h : 0 ≤ now) : 0 < afterS now := by unfold afterS; split <;> omega

theorem alike_grant {G : Int → Option (Int × Int)} {E U : Nat → Int} {s ep now : Int} (h : Alike G E U) (h0 : 0 ≤ now) : Alike (grantL G s ep now) (rgrantE E U s ep) (rgrantU E U s ep now) := by
  have hp := afterS_pos h0
  intro x
  obtain ⟨hx1, hx2⟩ := h x
  by_cases hE : grantE s ep = 0
  · have hs : 0 ≤ s ∧ s < 4 ∧ 1 ≤ ep := by unfold grantE at hE; split at hE <;> omega
    refine ⟨fun hx => ?_, fun hx => ?_⟩
    · have hx1 := hx1 hx
      by_cases hxs : x = s
      · subst hxs
        have e1 : ((x.toNat : Nat) : Int) = x := by omega
        simp only [grantL, hE, rgrantE, rgrantU, true_and, if_true]
        rcases hx1 with ⟨he, hg⟩ | ⟨he, v, hg, hv⟩
        · have h1 : E x.toNat ≤ ep := by omega
          have h2 : ¬ (ep = E x.toNat ∧ afterS now < U x.toNat) := by omega
          have h3 : ((none : Option (Int × Int)).getD (0, 0)).1 < ep := by simp; omega
          simp only [h1, if_true, upN, e1, hg, grantG, h2, if_false, h3]
          exact .inr ⟨by omega, _, rfl, .inl rfl⟩
        · by_cases h1 : E x.toNat ≤ ep
          · simp only [h1, if_true, upN, e1, hg, grantG, Option.getD_some]
            rcases Int.lt_or_eq_of_le h1 with h4 | h4
            · have h5 : ¬ (ep = E x.toNat ∧ afterS now < U x.toNat) := by omega
              simp only [h4, if_true, h5, if_false]
              exact .inr ⟨by omega, _, rfl, .inl rfl⟩
            · subst h4
              have h5 : ¬ E x.toNat < E x.toNat := by omega
              simp only [h5, if_false, if_true, true_and]
              refine .inr ⟨by omega, _, rfl, .inl ?_⟩
              split <;> omega
          · have h5 : ¬ E x.toNat < ep := by omega
            have h6 : ¬ ep = E x.toNat := by omega
            simp only [h1, if_false, hg, grantG, Option.getD_some, h5, h6]
            exact .inr ⟨he, v, rfl, hv⟩
      · have e1 : ¬ ((x.toNat : Nat) : Int) = s := by omega
        have e2 : grantL G s ep now x = G x := by simp [grantL, hxs]
        have e3 : rgrantE E U s ep x.toNat = E x.toNat := by unfold rgrantE; split <;> simp only [upN, e1, if_false]
        have e4 : rgrantU E U s ep now x.toNat = U x.toNat := by unfold rgrantU; split <;> simp only [upN, e1, if_false]
        rw [e2, e3, e4]
        exact hx1
    · have hxs : ¬ x = s := by rintro rfl; omega
      have e2 : grantL G s ep now x = G x := by simp [grantL, hxs]
      rw [e2]
      exact hx2 hx
  · have e2 : grantL G s ep now = G := by funext y; simp [grantL, hE]
    have e3 : rgrantE E U s ep = E := by simp [rgrantE, hE]
    have e4 : rgrantU E U s ep now = U := by simp [rgrantU, hE]
    rw [e2, e3, e4]
    exact ⟨hx1, hx2⟩

theorem alike_release {G : Int → Option (Int × Int)} {E U : Nat → Int} {s ep : Int} (h : Alike G E U) : Alike (relL G s ep) E (rrelU E U s ep) := by
  intro x
  obtain ⟨hx1, hx2⟩ := h x
  refine ⟨fun hx => ?_, fun hx => ?_⟩
  · have hx1 := hx1 hx
    by_cases hxs : x = s
    · subst hxs
      have e1 : ((x.toNat : Nat) : Int) = x := by omega
      rcases hx1 with ⟨he, hg⟩ | ⟨he, v, hg, hv⟩
      · have e2 : rrelU E U x ep = U := by unfold rrelU; rw [if_neg (by omega)]
        rw [e2]
        exact .inl ⟨he, by simp [relL, hg, relG]⟩
      · by_cases hc : E x.toNat = ep
        · have e2 : rrelU E U x ep = upN U x (-4611686018427387904) := by unfold rrelU; rw [if_pos (by omega)]
          rw [e2]
          refine .inr ⟨he, 0, by simp [relL, hg, relG, hc], .inr ⟨by omega, ?_⟩⟩
          simp only [upN, e1, if_true]; omega
        · have e2 : rrelU E U x ep = U := by unfold rrelU; rw [if_neg (by omega)]
          rw [e2]
          exact .inr ⟨he, v, by simp [relL, hg, relG, hc], hv⟩
    · have e1 : ¬ ((x.toNat : Nat) : Int) = s := by omega
      have e2 : relL G s ep x = G x := by simp [relL, hxs]
      have e3 : rrelU E U s ep x.toNat = U x.toNat := by unfold rrelU; split <;> simp only [upN, e1, if_false]
      rw [e2, e3]
      exact hx1
  · have e2 : relL G s ep x = G x := by
      by_cases hxs : x = s
      · subst hxs; simp [relL, hx2 hx, relG]
      · simp [relL, hxs]
    rw [e2]
    exact hx2 hx

theorem alike_may {G : Int → Option (Int × Int)} {E U : Nat → Int} {gr gr' s ep now : Int} (h : Alike G E U) (h0 : 0 ≤ now) (hg : gr = gr' ∨ (gr ≤ 0 ∧ gr' ≤ 0)) : mayL gr (G s) ep now = rmayL gr' E U s ep now := by
  obtain ⟨hx1, hx2⟩ := h s
  have hl : now < gr ↔ now < gr' := by omega
  unfold mayL rmayL
  by_cases hn : now < gr'
  · have hn' := hl.2 hn
    simp [hn, hn']
  · have hn' : ¬ now < gr := fun x => hn (hl.1 x)
    simp only [hn, hn', if_false]
    by_cases hs : 0 ≤ s ∧ s < 4
    · simp only [hs, and_self, if_true]
      rcases hx1 hs with ⟨he, hg⟩ | ⟨he, v, hg, hv⟩
      · simp [hg, he]
      · have h1 : ¬ E s.toNat = 0 := by omega
        rw [hg, Bool.eq_iff_iff]
        simp only [h1, decide_false, Bool.false_or, Bool.or_eq_true, decide_eq_true_eq]
        omega
    · simp [hs, hx2 hs]

end Go.Proofs.Ytdphfhenjndkkaa
