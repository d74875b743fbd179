/-
  A model of streams: what it comes to, in plain Lean, and how it lies in memory.
-/
import Derived.Test.YtlineikeafepcaaMidOps
import Derived.Test.YtlineikeafepcaaLogAt
import Derived.Test.YtlineikeafepcaaAppFull
import Derived.Test.YtlineikeafepcaaOuts
import Derived.Test.YtlineikeafepcaaFoldFind
import Derived.Test.YtlineikeafepcaaFoldLaws2
set_option linter.unusedSimpArgs false
set_option linter.unusedVariables false
set_option maxRecDepth 100000
namespace Go.Wd
open Go Go.RowKit

theorem grown_setRow (w : World) (g : Nat) (l : Array Value) : w.grownBy (w.setRow g l) (some g) := ⟨rfl, rfl, rfl, by simp, fun k _ hk => setRow_other w g k l (fun e => hk (by rw [e]))⟩
theorem below_grown {B g : Nat} {w w' : World} (hg : w.grownBy w' (some g)) (hB : B ≤ g) (hw : B ≤ w.heap.size) : Below B w w' := ⟨hg.os, hg.tape, hg.output, hg.size, fun k hk => hg.block k (by omega) (by intro e; cases e; omega)⟩
theorem wpList_store_own {P : Program} {w : World} {ops : Array Oper} {rest : List Oper} {o : Oper} {a : Act} {Q : Exit → Act → World → Prop} (hgd : o.guard = none) (ty : TypeId) (x y : Operand) (ho : o.op = .store ty x y)
    (g : Nat) (cs : List Value) (hx : a.eval x = .pointer (some ⟨g, 0, none⟩)) (hy : a.eval y = .agg cs.toArray) (t : TypeId) (old : List Value) (hg : Blk w g t old)
    (hi : (P.info? ty).map (·.size) = some cs.length) (hold : old.length = cs.length) (h1 : ∀ v ∈ cs, v.oneCell' = true)
    (h : ∀ w', Blk w' g t cs → w.grownBy w' (some g) → wpList P ops Q rest (a.put o.dst undef) w') : wpList P ops Q (o :: rest) a w :=
  wpList_store_row hgd ty x y ho g cs.toArray hx hy t old.toArray hg (by simpa using hi) (by simpa using hold)
    (Array.all_eq_true_iff_forall_mem.2 (fun v hv => h1 v (by simpa using hv)))
    (h _ (hg.row cs) (grown_setRow w g _))
theorem grown_below {w w1 w2 : World} {row : Option Nat} (h : w.grownBy w1 row) (hb : Below w1.heap.size w1 w2) : w.grownBy w2 row := h.trans (only_of_below hb row)
theorem grown_new {w w1 w2 : World} {row : Option Nat} {k : Nat} (h : w.grownBy w1 row) (hk : w.heap.size ≤ k) (hg : w1.grownBy w2 (some k)) : w.grownBy w2 row := h.andThen hg (fun j e => by cases e; exact .inl hk)
theorem grown_set (w : World) (g i : Nat) (v : Value) : w.grownBy (w.setCell ⟨g, i, none⟩ v) (some g) := only_setCell (World.grownBy.refl w _) (.inl rfl) v
end Go.Wd
namespace Go.Proofs.Ytlineikeafepcaa
open Go Go.RowKit Go.Sq Go.Wd Go.Arch

def slv (s : SlcE) : Value := .slice s.1 s.2.1 s.2.2
def ordv (o : Ord) : List Value := [.int .i64 o.id, .int .i64 o.stream, .int .i64 o.expect, .int .i64 o.kind, .int .i64 o.arg]
def outv (p : OutS) (s : Sl) : List Value := [.int .i64 p.1, .int .i64 p.2.1, .slice s.1 s.2.1 s.2.2]
def entOf (o : Ord) : Ent := (1, o.id, o.stream, o.expect, o.kind, o.arg)
theorem ordOf_entOf (o : Ord) : ordOf (entOf o) = o := rfl

/-- The logs of all streams. -/
abbrev Logs := Nat → List Ent
def upd {α : Type} (f : Nat → α) (s : Nat) (x : α) : Nat → α := fun i => if i = s then x else f i
theorem upd_at {α : Type} (f : Nat → α) (s : Nat) (x : α) : upd f s x s = x := if_pos rfl
theorem upd_far {α : Type} (f : Nat → α) {s i : Nat} (x : α) (h : i ≠ s) : upd f s x i = f i := if_neg h
def noOut : OutS := (0, 0, [])
/-- What becomes of an order: the logs behind it, the outcome, the error. -/
def doM (M : Logs) (o : Ord) : Logs × OutS × Int :=
  if ordOk o = true then
    match firstIn (M o.stream.toNat) (M o.stream.toNat).length o.id with
    | some k => (M, ((foldS (M o.stream.toNat)).2.getD k noOut), 0)
    | none => if 64 ≤ (M o.stream.toNat).length then (M, noOut, 3)
      else (upd M o.stream.toNat (M o.stream.toNat ++ [entOf o]), (foldS (M o.stream.toNat ++ [entOf o])).2.getD (M o.stream.toNat).length noOut, 0)
  else (M, noOut, 2)
def stateM (M : Logs) (s : Int) : St × Int := if 0 ≤ s ∧ s < 4 then ((foldS (M s.toNat)).1, 0) else (⟨0, false, 0, 0⟩, 2)
def ordersM (M : Logs) (s : Int) : List Ord := if 0 ≤ s ∧ s < 4 then (M s.toNat).map ordOf else []
/-- An answer: ID, code, version. -/
abbrev Ans := Int × Int × Int
def allowsM (M : Logs) (s : Int) (a : Ans) : Bool :=
  if a.2.1 = 4 ∨ a.2.1 = 5 ∨ a.2.1 = 6 ∨ a.2.1 = 7 then decide (a.2.2 = 0)
  else if 0 ≤ s ∧ s < 4 then
    match firstIn (M s.toNat) (M s.toNat).length a.1 with
    | some k => decide (((foldS (M s.toNat)).2.getD k noOut).1 = a.2.1) && decide (((foldS (M s.toNat)).2.getD k noOut).2.1 = a.2.2)
    | none => false
  else false
theorem wf_of_range {a : Int} (h : -9223372036854775808 ≤ a ∧ a ≤ 9223372036854775807) : (Lit.int .i64 a).wf = true := by
  simp only [Lit.wf, Bool.and_eq_true, decide_eq_true_eq]
  exact h
/-- What all logs of a model are. -/
def FineM (M : Logs) : Prop := ∀ i, i < 4 → (M i).length ≤ 64 ∧ ∀ e ∈ M i, e.1 = 1 ∧ ordOk (ordOf e) = true ∧ (ordOf e).stream = (i : Int)
theorem ordOk_in {o : Ord} (h : ordOk o = true) : 1 ≤ o.id ∧ o.id ≤ 2147483647 ∧ 0 ≤ o.stream ∧ o.stream ≤ 3 ∧ -1 ≤ o.expect ∧ o.expect ≤ 2147483647 ∧ 1 ≤ o.kind ∧ o.kind ≤ 4 ∧ -1048576 ≤ o.arg ∧ o.arg ≤ 1048576 := by
  unfold ordOk at h
  exact of_decide_eq_true h
theorem fine_nil : FineM (fun _ => []) := fun i _ => ⟨by simp, fun e he => by cases he⟩
theorem fine_add {M : Logs} (h : FineM M) {o : Ord} (ho : ordOk o = true) (hl : ¬ 64 ≤ (M o.stream.toNat).length) : FineM (upd M o.stream.toNat (M o.stream.toNat ++ [entOf o])) := fun i hi => by
  have hr := ordOk_in ho
  by_cases he : i = o.stream.toNat
  · subst he
    rw [upd_at]
    refine ⟨by simp; omega, fun e he => ?_⟩
    rcases List.mem_append.1 he with he | he
    · exact (h _ hi).2 e he
    · obtain rfl : e = entOf o := by simpa using he
      exact ⟨rfl, ho, by rw [ordOf_entOf]; omega⟩
  · rw [upd_far _ _ he]
    exact h i hi
theorem fine_do {M : Logs} (h : FineM M) (o : Ord) : FineM (doM M o).1 := by
  unfold doM
  split
  · rename_i ho
    split
    · exact h
    · split
      · exact h
      · rename_i hl
        exact fine_add h ho hl
  · exact h
theorem fine_wf {M : Logs} (h : FineM M) {i : Nat} (hi : i < 4) : ∀ e ∈ M i, (Lit.int .i64 e.2.1).wf = true := fun e he => by
  have := ordOk_in ((h i hi).2 e he).2.1
  exact wf_of_range (by show -9223372036854775808 ≤ (ordOf e).id ∧ (ordOf e).id ≤ 9223372036854775807; omega)

def mcells (ss : Nat → SlcE) : List Value := [.bool true, slv (ss 0), slv (ss 1), slv (ss 2), slv (ss 3)]
theorem mcells_at (ss : Nat → SlcE) {s : Nat} (h : s < 4) : (mcells ss)[1 + s]? = some (slv (ss s)) := by
  obtain rfl | rfl | rfl | rfl : s = 0 ∨ s = 1 ∨ s = 2 ∨ s = 3 := by omega
  all_goals rfl
theorem mcells_set (ss : Nat → SlcE) {s : Nat} (h : s < 4) (x : SlcE) : (mcells ss).set (1 + s) (slv x) = mcells (upd ss s x) := by
  obtain rfl | rfl | rfl | rfl : s = 0 ∨ s = 1 ∨ s = 2 ∨ s = 3 := by omega
  all_goals rfl
/-- A row stays where a block of another type turns. -/
theorem own_beside {w w' : World} {B : Nat} {e : TypeId} {size n q : Nat} {v : Value} {xs : List Value} (h : w.ownsRow B e size v n xs) (hg : w.grownBy w' (some q)) (hq : ∀ cs, w.heap[q]? ≠ some (.cells cs e (0, 0))) : w'.ownsRow B e size v n xs :=
  h.kept hg (by
    rcases h.2 with ⟨rfl, _⟩ | ⟨g, cap, cur, rfl, _, hh, _⟩
    · exact .inl rfl
    · refine .inr (fun e => ?_)
      have e2 : g = q := by simpa [Value.ownBlock] using e
      subst e2
      exact hq _ hh)
theorem blk_not {w : World} {k : Nat} {T U : TypeId} {cs : List Value} (h : Blk w k T cs) (hT : T ≠ U) : ∀ xs, w.heap[k]? ≠ some (.cells xs U (0, 0)) := fun xs e => by
  unfold Blk at h
  rw [h] at e
  injection e with e
  injection e with _ e _
  exact hT e
theorem own_not {w : World} {B : Nat} {T U : TypeId} {size n q : Nat} {v : Value} {xs : List Value} (h : w.ownsRow B T size v n xs) (hq : v.ownBlock = some q) (hT : T ≠ U) : ∀ cs, w.heap[q]? ≠ some (.cells cs U (0, 0)) := fun cs e => by
  rcases h.2 with ⟨rfl, _⟩ | ⟨g, cap, cur, rfl, _, hh, _⟩
  · cases hq
  · have e2 : g = q := by simpa [Value.ownBlock] using hq
    subst e2
    rw [hh] at e
    injection e with e
    injection e with _ e _
    exact hT e
theorem Row.to_log {w : World} {B : Nat} {s : SlcE} {l : List Ent} (h : Row w B (slv s) l) : LogAt w w.heap.size s l := by
  obtain ⟨A, c, he, h1, h2, h3⟩ := h.form
  obtain ⟨a, n, d⟩ := s
  unfold slv at he
  cases he
  exact ⟨rfl, h1, h2, h3⟩
/-- Entries behind a full slice: a row of its own. -/
theorem app_own (l m : List Ent) (A B : Option Addr) (d : Nat) (w : World) (ha : Ents w w.heap.size A l) (hb : Ents w w.heap.size B m) (h0 : 0 < m.length) (hl : l.length + m.length ≤ 2000) :
    ∃ (sl : SlcE) (w' : World), (Builtin.append_ #[49, 49] 49 #[.slice A l.length l.length, .slice B m.length d]).run Try.prog w = .ok (slv sl) w' ∧ sl.2.1 = (l ++ m).length ∧ Row w' 0 (slv sl) (l ++ m) ∧ Below w.heap.size w w' := by
  obtain ⟨i, hi, hz, h2, h3⟩ := info_parts ent_info
  obtain ⟨b, hB, hb2⟩ := hb.cells h0
  subst hB
  have fin : ∀ (v1 : Value) (w1 : World), (Builtin.append_ #[49, 49] 49 #[.slice A l.length l.length, .slice (some b) m.length d]).run Try.prog w = .ok v1 w1 → Row w1 w.heap.size v1 (l ++ m) → Below w.heap.size w w1 →
      ∃ (sl : SlcE) (w' : World), (Builtin.append_ #[49, 49] 49 #[.slice A l.length l.length, .slice (some b) m.length d]).run Try.prog w = .ok (slv sl) w' ∧ sl.2.1 = (l ++ m).length ∧ Row w' 0 (slv sl) (l ++ m) ∧ Below w.heap.size w w' := fun v1 w1 q1 q2 q3 => by
    obtain ⟨A', c', rfl, _⟩ := q2.form
    refine ⟨(A', (l ++ m).length, c'), w1, q1, rfl, ?_, q3⟩
    refine ⟨q2.1, ?_⟩
    rcases q2.2 with h | ⟨g, cap, cur, e1, _, r⟩
    · exact .inl h
    · exact .inr ⟨g, cap, cur, e1, Nat.zero_le _, r⟩
  rcases Nat.eq_zero_or_pos l.length with l0 | l0
  · obtain rfl : l = [] := List.eq_nil_of_length_eq_zero l0
    cases A with
    | none =>
      obtain ⟨v1, w1, h1, h2, h3, _⟩ := append_all (P := Try.prog) 49 Try.underlying49 ent_info rfl (by omega) (World.ownsRow_nil w w.heap.size 84 6) (some b) m.length d (flat m) (flat_len m) hb.cells (flat_one_cell m) (by simp only [maxLen]; omega) (by omega) (Nat.le_refl _)
      exact fin v1 w1 h1 (by unfold Row; simpa using h2) (below_own (Below.refl _ _) h3 (World.ownsRow_nil w w.heap.size 84 6) (Nat.le_refl _))
    | some a =>
      obtain ⟨v1, w1, h1, h2', h3'⟩ := run_append_arg_grows (P := Try.prog) w 49 49 84 i _ 6 48 Try.underlying49 hi hz h2 h3 rfl (by omega) a 0 0 [] rfl (by simp) b m.length d (flat m) (flat_len m) hb2 (by omega) (by simp only [maxLen]; omega) (by omega)
      exact fin v1 w1 h1 (by unfold Row; simpa using h2') ⟨h3'.os, h3'.tape, h3'.output, h3'.size, fun k hk => h3'.block k hk (by simp)⟩
  · obtain ⟨a, hA, ha2⟩ := ha.cells l0
    subst hA
    obtain ⟨v1, w1, h1, h2', h3'⟩ := run_append_arg_grows (P := Try.prog) w 49 49 84 i _ 6 48 Try.underlying49 hi hz h2 h3 rfl (by omega) a l.length l.length (flat l) (flat_len l) ha2 b m.length d (flat m) (flat_len m) hb2 (by omega) (by simp only [maxLen]; omega) (by omega)
    exact fin v1 w1 h1 (by unfold Row; rw [List.length_append, flat_snoc]; exact h2') ⟨h3'.os, h3'.tape, h3'.output, h3'.size, fun k hk => h3'.block k hk (by simp)⟩

/-- A model at block g: the slices of its logs, each a row of its own. -/
def MdlAt (w : World) (g : Nat) (ss : Nat → SlcE) (M : Logs) : Prop := Blk w g 52 (mcells ss) ∧ ∀ i, i < 4 → Row w 0 (slv (ss i)) (M i)
section
variable {w w' : World} {g : Nat} {ss : Nat → SlcE} {M : Logs}
theorem MdlAt.keep (h : MdlAt w g ss M) (hb : Below w.heap.size w w') : MdlAt w' g ss M := ⟨h.1.keep hb, fun i hi => Row.keep (h.2 i hi) hb⟩
theorem MdlAt.lt (h : MdlAt w g ss M) : g < w.heap.size := h.1.lt
/-- A block of another type turns. -/
theorem MdlAt.beside (h : MdlAt w g ss M) {k : Nat} (hk : ∀ cs, w.heap[k]? ≠ some (.cells cs 84 (0, 0))) (hg : w.grownBy w' (some k)) (hne : g ≠ k) : MdlAt w' g ss M :=
  ⟨h.1.grown hg (fun e => hne (Option.some.inj e)), fun i hi => own_beside (h.2 i hi) hg hk⟩
theorem MdlAt.other (h : MdlAt w g ss M) {k : Nat} {T : TypeId} {cs : List Value} (hk : Blk w k T cs) (hT : T ≠ 84) (hg : w.grownBy w' (some k)) (hne : g ≠ k) : MdlAt w' g ss M :=
  h.beside (blk_not hk hT) hg hne
theorem MdlAt.made (h : MdlAt w g ss M) : w.cell? ⟨g, 0, none⟩ = some (.bool true) := h.1.cell 0
theorem MdlAt.slice (h : MdlAt w g ss M) {s : Nat} (hs : s < 4) : w.cell? ⟨g, 1 + s, none⟩ = some (slv (ss s)) := (h.1.cell (1 + s)).trans (mcells_at ss hs)
/-- One log of it replaced. -/
theorem MdlAt.set (h : MdlAt w g ss M) {s : Nat} (hs : s < 4) {x : SlcE} {l : List Ent} (hl : Row w 0 (slv x) l) : MdlAt (w.setCell ⟨g, 1 + s, none⟩ (slv x)) g (upd ss s x) (upd M s l) := by
  refine ⟨(h.1.set (1 + s) (slv x)).of_eq (mcells_set ss hs x), fun i hi => ?_⟩
  have hg := grown_set w g (1 + s) (slv x)
  have hn := blk_not h.1 (show 52 ≠ 84 by decide)
  by_cases he : i = s
  · subst he
    rw [upd_at, upd_at]
    exact own_beside hl hg hn
  · rw [upd_far _ _ he, upd_far _ _ he]
    exact own_beside (h.2 i hi) hg hn
end
theorem order_info : (Try.prog.info? 37).map (·.size) = some 5 := by kernel_rfl
theorem outcome_info : (Try.prog.info? 32).map (·.size) = some 3 := by kernel_rfl
theorem state_info : (Try.prog.info? 40).map (·.size) = some 4 := by kernel_rfl
theorem outv_one (p : OutS) (s : Sl) : ∀ v ∈ outv p s, v.oneCell' = true := by
  intro v hv
  simp only [outv, List.mem_cons, List.not_mem_nil, or_false] at hv
  rcases hv with rfl | rfl | rfl <;> rfl
theorem stv_one (s : St) : ∀ v ∈ stv s, v.oneCell' = true := by
  intro v hv
  simp only [stv, List.mem_cons, List.not_mem_nil, or_false] at hv
  rcases hv with rfl | rfl | rfl | rfl <;> rfl
end Go.Proofs.Ytlineikeafepcaa
